/- Frames and chains of blocks, as plain functions. Conditions: none. The contract of cbc.xor. Conditions: blocks of 16 bytes. Contracts of cbc.Frame and cbc.xor. Conditions: fewer than 2^47 bytes; blocks of 16 bytes. The contract of cbc.blocks: the iterator over a text's blocks of 16 bytes. Conditions: as each theorem names them. What the walks of cbc.Seal and cbc.Open stand on. Conditions: as each theorem names them. -/
import Derived.Test.YtdegeodegjmddaaZAesQ2
import Derived.Test.YtdegeodegjmddaaZRowQ
import Derived.Test.YtdegeodegjmddaaShelf
import Derived.Sort.LoopGhostIn
import Derived.Sort.QuietIn
set_option linter.unusedVariables false
set_option linter.unusedSimpArgs false
namespace Go.Proofs.Ytdegeodegjmddaa.Cbc
open Go.Proofs.Ytdegeodegjmddaa.Row Go.Proofs.Ytdegeodegjmddaa.Given
set_option linter.unusedVariables false
set_option linter.unusedSimpArgs false
/-- a number's eight bytes -/
def be8 (n : Nat) : List UInt8 := (List.range 8).map fun k => UInt8.ofNat (n / 2 ^ (8 * (7 - k)))
theorem be8_length (n : Nat) : (be8 n).length = 8 := by simp [be8]
def pad (n : Nat) : Nat := (16 - (8 + n) % 16) % 16
def frameL (d : List UInt8) : List UInt8 := be8 d.length ++ d ++ List.replicate (pad d.length) 0
theorem frameL_length (d : List UInt8) : (frameL d).length = 8 + d.length + pad d.length := by simp [frameL, be8_length]; omega
theorem frameL_mod (d : List UInt8) : (frameL d).length % 16 = 0 := by rw [frameL_length]; unfold pad; omega
def bs (l : List UInt8) : ByteArray := ⟨l.toArray⟩
theorem bs_size (l : List UInt8) : (bs l).size = l.length := by simp [bs, ByteArray.size]
theorem bs_toList (l : List UInt8) : (bs l).data.toList = l := by simp [bs]
theorem bs_data (s : ByteArray) : bs s.data.toList = s := by cases s; simp [bs]
def frameW (d : ByteArray) : ByteArray := bs (frameL d.data.toList)
/-- two blocks, put together -/
def xorL : List UInt8 → List UInt8 → List UInt8 := List.zipWith (· ^^^ ·)
def xorW (a b : ByteArray) : ByteArray := bs (xorL a.data.toList b.data.toList)
theorem xorW_size (a b : ByteArray) (ha : a.size = 16) (hb : b.size = 16) : (xorW a b).size = 16 := by
  rw [xorW, bs_size, xorL, List.length_zipWith, toList_length, toList_length, ha, hb]; rfl
/-- a text's blocks -/
def blocksOf (s : ByteArray) : List ByteArray := (List.range (s.size / 16)).map fun k => s.extract (16 * k) (16 * k + 16)
theorem blocksOf_length (s : ByteArray) : (blocksOf s).length = s.size / 16 := by simp [blocksOf]
theorem blocksOf_size (s b : ByteArray) (h : b ∈ blocksOf s) : b.size = 16 := by
  simp only [blocksOf, List.mem_map, List.mem_range] at h
  obtain ⟨k, hk, rfl⟩ := h
  rw [ByteArray.size_extract]
  omega
/-- a block sealed onto a chain; a block opened -/
def sealGo (key : ByteArray) (st : List UInt8 × ByteArray) (b : ByteArray) : List UInt8 × ByteArray :=
  (st.1 ++ (encW key (xorW b st.2)).data.toList, encW key (xorW b st.2))
def openGo (key : ByteArray) (st : List UInt8 × ByteArray) (b : ByteArray) : List UInt8 × ByteArray :=
  (st.1 ++ (xorW (decW key b) st.2).data.toList, b)
def sealB (key first : ByteArray) (l : List ByteArray) : List UInt8 × ByteArray := l.foldl (sealGo key) ([], first)
def openB (key first : ByteArray) (l : List ByteArray) : List UInt8 × ByteArray := l.foldl (openGo key) ([], first)
theorem sealF_length (key : ByteArray) (l : List ByteArray) : ∀ st, (l.foldl (sealGo key) st).1.length = st.1.length + 16 * l.length := by
  induction l with
  | nil => intro st; simp
  | cons b l ih =>
    intro st
    rw [List.foldl_cons, ih]
    simp only [sealGo, List.length_append, List.length_cons, toList_length, encW_size]
    omega
theorem sealB_length (key first : ByteArray) (l : List ByteArray) : (sealB key first l).1.length = 16 * l.length := by rw [sealB, sealF_length]; simp
theorem sealB_last (key first : ByteArray) (hf : first.size = 16) (l : List ByteArray) : (sealB key first l).2.size = 16 := by
  rcases List.eq_nil_or_concat l with rfl | ⟨m, b, rfl⟩
  · exact hf
  · simp [sealB, sealGo, encW_size]
theorem openF_length (key : ByteArray) (l : List ByteArray) (hl : ∀ b ∈ l, b.size = 16) : ∀ st, st.2.size = 16 → (l.foldl (openGo key) st).1.length = st.1.length + 16 * l.length := by
  induction l with
  | nil => intro st _; simp
  | cons b l ih =>
    intro st hs
    rw [List.foldl_cons, ih (fun c hc => hl c (List.mem_cons_of_mem _ hc)) _ (hl b (List.mem_cons_self ..))]
    simp only [openGo, List.length_append, List.length_cons, toList_length, xorW_size _ _ (decW_size _ _) hs]
    omega
theorem openB_length (key first : ByteArray) (hf : first.size = 16) (l : List ByteArray) (hl : ∀ b ∈ l, b.size = 16) : (openB key first l).1.length = 16 * l.length := by rw [openB, openF_length key l hl _ hf]; simp
theorem openB_last (key first : ByteArray) (hf : first.size = 16) (l : List ByteArray) (hl : ∀ b ∈ l, b.size = 16) : (openB key first l).2.size = 16 := by
  rcases List.eq_nil_or_concat l with rfl | ⟨m, b, rfl⟩
  · exact hf
  · simp only [openB, List.concat_eq_append, List.foldl_append, List.foldl_cons, List.foldl_nil, openGo]
    exact hl b (by simp)
theorem sealB_snoc (key first : ByteArray) (l : List ByteArray) (b : ByteArray) : sealB key first (l ++ [b]) = sealGo key (sealB key first l) b := by simp [sealB]
theorem openB_snoc (key first : ByteArray) (l : List ByteArray) (b : ByteArray) : openB key first (l ++ [b]) = openGo key (openB key first l) b := by simp [openB]
end Go.Proofs.Ytdegeodegjmddaa.Cbc

namespace Go.Proofs.Ytdegeodegjmddaa.Given
open Go.RowKit Go.Proofs.YtdegeodegjmddaaW.PrintWords Go.Proofs.YtdegeodegjmddaaW.PrintLast Go.Proofs.YtdegeodegjmddaaW.PrintMore
open Go.Proofs.Ytdegeodegjmddaa.Row Go.Proofs.Ytdegeodegjmddaa.Aes Go.Proofs.Ytdegeodegjmddaa.Row.At Go.Proofs.Ytdegeodegjmddaa.Cbc
set_option maxRecDepth 100000
set_option linter.unusedVariables false
set_option linter.unusedSimpArgs false
attribute [-simp] Try.isAgg74 Try.sizeOf74
theorem info16 : (Try.prog.info? 74).map (·.size) = some 16 := by kernel_rfl
theorem xorL_eq (x y : List UInt8) (hx : x.length = 16) (hy : y.length = 16) : xorL x y = mk16 (withF x y) := by
  refine ext8 (by rw [xorL, List.length_zipWith, hx, hy, mk16_length]; rfl) fun j hj => ?_
  have hj16 : j < 16 := by rw [xorL, List.length_zipWith, hx, hy] at hj; simpa using hj
  rw [mk16_at _ _ hj16]
  simp only [gb, xorL, withF, List.getD_eq_getElem?_getD, List.getElem?_zipWith]
  rw [List.getElem?_eq_getElem (by omega), List.getElem?_eq_getElem (by omega)]
  rfl
theorem index_str (b : ByteArray) (i : Nat) (h : i < b.size) (w : World) : (Instr.index 9 (.string b) (.int .i64 (i : Int))).run Try.prog w = .ok (.int .u8 (gb b.data.toList i).toNat) w := by
  have h1 : (0 : Int) ≤ (i : Int) ∧ (i : Int) < (b.size : Int) := by omega
  simp [Instr.index, go_sem, h1, gb, List.getD_eq_getElem?_getD]
  have h2 : i < b.data.size := h
  have h3 : b.data[i]? = some b.data[i] := Array.getElem?_eq_getElem h2
  rw [getElem?_pos b i h, h3]
  rfl
set_option maxHeartbeats 1000000 in
theorem xor_any (a b : ByteArray) (ha : a.size = 16) (hb : b.size = 16) (w : World) :
    Calls Try.prog 32 #[.string a, .string b] w fun e w' => e = .returned (.string (xorW a b)) ∧ Below w.heap.size w w' := by
  have HA := Aside0.mk ha
  have HBs := Aside0.mk hb
  have hconv := Lib.run_convert_string_bytes (P := Try.prog) w 9 43 5 a Try.underlying9 Try.underlying43 Try.underlying5
  obtain ⟨w1, hw1⟩ : ∃ w1, w1 = Lib.bytesWorld w 5 a := ⟨_, rfl⟩
  rw [← hw1, ha] at hconv
  have hat : ∀ c, (Instr.arrayAt 74 (.slice (some ⟨w.heap.size, 0, none⟩) 16 c)).run Try.prog w1 = .ok (.pointer (some ⟨w.heap.size, 0, none⟩)) w1 := by
    intro c
    simp [Instr.arrayAt, run_underlying Try.underlying74]
  have hsz : w1.heap.size = w.heap.size + 1 := by rw [hw1]; exact Lib.bytesWorld_size _ _ _
  have hcells : ∀ j v, (b8s a.data.toList)[j]? = some v → w1.cell? ⟨w.heap.size, 0 + j, none⟩ = some v := by
    intro j v hj
    have hlt : j < a.data.toList.length := by have := (List.getElem?_eq_some_iff.1 hj).1; rwa [b8s_length] at this
    rw [b8s_get _ _ hlt] at hj
    rw [hw1, Nat.zero_add, Lib.bytesWorld_cell w _ a j (by rwa [toList_length] at hlt), ← Option.some.inj hj]
    rfl
  have hbel : Below w.heap.size w w1 := ⟨by rw [hw1]; rfl, by rw [hw1]; rfl, by rw [hw1]; rfl, by omega, fun k hk => by rw [hw1]; exact Lib.bytesWorld_at_old _ _ _ k hk⟩
  have HSZ := Aside0.mk hsz
  have HCE := Aside0.mk hcells
  have HBEL := Aside0.mk hbel
  have HAL := Aside0.mk (toList_length a)
  clear ha hb hsz hcells hbel hw1
  obtain ⟨B, hB⟩ : ∃ B, B = w.heap.size := ⟨_, rfl⟩
  rw [← hB] at hconv hat HSZ HCE HBEL ⊢
  clear hB
  go_enter Try.func32, Try.ntmps32
  have HG0 : Aside0 (At (w1.alloc (.cells #[.int .u8 0, .int .u8 0, .int .u8 0, .int .u8 0, .int .u8 0, .int .u8 0, .int .u8 0, .int .u8 0, .int .u8 0, .int .u8 0, .int .u8 0, .int .u8 0, .int .u8 0, .int .u8 0, .int .u8 0, .int .u8 0] 74 (0, 0))) w1.heap.size 74 (b8s (List.replicate 16 0))) := ⟨At.zeros rfl⟩
  have HBB : Aside0 (Below B w (w1.alloc (.cells #[.int .u8 0, .int .u8 0, .int .u8 0, .int .u8 0, .int .u8 0, .int .u8 0, .int .u8 0, .int .u8 0, .int .u8 0, .int .u8 0, .int .u8 0, .int .u8 0, .int .u8 0, .int .u8 0, .int .u8 0, .int .u8 0] 74 (0, 0)))) := ⟨HBEL.out.alloc (by rw [HSZ.out]; omega) _⟩
  go_wp2_with (first
    | ((with_reducible refine gate_dst (N := 10) rfl ?_); refine wpList_load_mid rfl _ _ rfl B 0 rfl (b8s a.data.toList) _ HCE.out Try.underlying74 rfl (by rw [b8s_length, HAL.out, HA.out]; exact info16) ?_)
    | (refine HG0.out.store _ _ _ (b8s a.data.toList) rfl rfl rfl rfl (by rw [b8s_length, b8s_length, HAL.out, HA.out]; rfl) (by rw [b8s_length, HAL.out, HA.out]; exact info16) (At.one8 _) ?_; have n1 := Aside0.mk (HG0.out.setRow (b8s a.data.toList)); have n2 := Aside0.mk (At.row_below (g := w1.heap.size) HBB.out (by have := HSZ.out; omega) (b8s a.data.toList).toArray); clear HG0 HBB; have HG0 := n1; have HBB := n2; clear n1 n2))
  obtain ⟨g, hg⟩ : ∃ g, g = w1.heap.size := ⟨_, rfl⟩
  rw [← hg] at HG0 HBB ⊢
  have HGB : Aside0 (B ≤ g) := ⟨by rw [hg, HSZ.out]; omega⟩
  have HBL : Aside0 (b.data.toList.length = 16) := ⟨by rw [toList_length, HBs.out]⟩
  have HAL16 : Aside0 (a.data.toList.length = 16) := ⟨by rw [HAL.out, HA.out]⟩
  clear hg
  go_loopg [11] 16 (fun gg s11 wx => ∃ (i : Nat) (l : List UInt8), i + gg = 16 ∧ s11 = .int .i64 i ∧ At wx g 74 (b8s l) ∧ Part (withF a.data.toList b.data.toList) a.data.toList i l ∧ Below B w wx)
  case atStart => exact ⟨0, _, by omega, rfl, HG0.out, Part.start _ HAL16.out, HBB.out⟩
  case round =>
    obtain ⟨i, l, hig, rfl, hl, hR, hb⟩ := hrel
    clear HG0 HBB hconv hat HCE
    have HL := Aside0.mk hl; have HRR := Aside0.mk hR; have HBB := Aside0.mk hb
    clear hl hR hb
    cases gk with
    | zero =>
      have hi : i = 16 := by omega
      subst hi
      have hconv2 : (convert 43 9 (.slice (some ⟨g, 0, none⟩) 16 16)).run Try.prog wr = .ok (.string ⟨l.toArray⟩) wr := by
        have := run_convert_bytes_back (P := Try.prog) wr 43 9 5 ⟨g, 0, none⟩ 16 l Try.underlying43 Try.underlying5 Try.underlying9 (fun j hj => by
          rw [Addr.add_mid, Nat.zero_add, HL.out.cell8 j hj]
          simp [gb, List.getD_eq_getElem?_getD, hj])
        rwa [HRR.out.1] at this
      go_wp2
      go_ret
      refine ⟨?_, HBB.out⟩
      rw [xorW, xorL_eq _ _ HAL16.out HBL.out, ← HRR.out.done]
      rfl
    | succ gk =>
      have hi : i < 16 := by omega
      have c1 := HL.out.cell8 i (by rw [HRR.out.1]; exact hi)
      have f1 := HL.out.frozen i
      have hix := index_str b i (by rw [HBs.out]; exact hi)
      go_wp2
      go_still_tail 8, (by kernel_rfl)
      change wpList _ _ _ _ _ wr.drew
      have c1' : wr.drew.cell? { block := g, off := i } = some (Value.int IntKind.u8 ↑(gb l i).toNat) := c1
      have f1' : wr.drew.frozen? { block := g, off := i } = false := f1
      go_wp2
      rw [u8x]
      go_roundg gk
      case measure => omega
      case rel => exact ⟨i + 1, l.set i (gb l i ^^^ gb b.data.toList i), by omega, by go_num, HL.out.drewSet8 _ _, HRR.out.next hi (by rw [HRR.out.here hi]; rfl), (HBB.out.setCell HGB.out _).drew⟩
end Go.Proofs.Ytdegeodegjmddaa.Given

namespace Go.Proofs.Ytdegeodegjmddaa.Given
open Go.RowKit Go.Proofs.YtdegeodegjmddaaW.PrintWords Go.Proofs.YtdegeodegjmddaaW.PrintLast Go.Proofs.YtdegeodegjmddaaW.PrintMore
open Go.Proofs.Ytdegeodegjmddaa.Row Go.Proofs.Ytdegeodegjmddaa.Aes Go.Proofs.Ytdegeodegjmddaa.Row.At Go.Proofs.Ytdegeodegjmddaa.Cbc
set_option maxRecDepth 100000
set_option linter.unusedVariables false
set_option linter.unusedSimpArgs false
theorem freshBld (w : World) : Bld w.heap.size w.heap.size [] (w.alloc (.cells #[.pointer none, .slice none 0 0] 54)) := by
  have h := Lib.fresh_isBuilder 54 5 w
  exact Lib.IsBuilderF.of h
theorem lenB {B b : Nat} {l : List UInt8} {w : World} (h : Bld B b l w) (n : Nat) (hn : l.length = n) :
    Calls Try.prog 49 #[.pointer (some ⟨b, 0, none⟩)] w fun e w' => e = .returned (.int .i64 n) ∧ w' = w := by
  have := Try.Builder_Len_f B b _ w h
  rw [Lib.byteCells_length, hn] at this
  exact this
theorem stringB {B b : Nat} {l : List UInt8} {w : World} (h : Bld B b l w) (hB : B ≤ w.heap.size) :
    Calls Try.prog 34 #[.pointer (some ⟨b, 0, none⟩)] w fun e w' => e = .returned (.string (bs l)) ∧ Bld B b l w' ∧ Below B w w' ∧ Lib.OthersKept 5 (some b) w w' :=
  Try.Builder_String_any_k B b l w h hB
theorem be8_take (n k : Nat) (hk : k < 8) : (be8 n).take (8 - k) = (be8 n).take (8 - (k + 1)) ++ [UInt8.ofNat (n / 2 ^ (8 * k))] := by
  have h : 8 - (k + 1) < (be8 n).length := by rw [be8_length]; omega
  have e : 8 - k = (8 - (k + 1)) + 1 := by omega
  rw [e, ← List.take_append_getElem h]
  congr 2
  simp only [be8, List.getElem_map, List.getElem_range]
  congr 3
  omega
theorem byte_of (n k : Nat) : (n : Int) / 2 ^ (8 * k) % 256 = ((UInt8.ofNat (n / 2 ^ (8 * k))).toNat : Int) := by
  rw [UInt8.toNat_ofNat']
  simp
set_option maxHeartbeats 1000000 in
theorem Frame_any (d : ByteArray) (w : World) (hd : d.size ≤ 140737488351232) :
    Calls Try.prog 30 #[.string d] w fun e w' => e = .returned (.string (frameW d)) ∧ Below w.heap.size w w' := by
  have HD := Aside0.mk hd
  have HBl := Aside0.mk (freshBld w)
  have HB : Aside0 (Below w.heap.size w (w.alloc (.cells #[.pointer none, .slice none 0 0] 54))) := ⟨(Below.refl _ w).alloc (Nat.le_refl _) _⟩
  clear hd
  go_enter Try.func30, Try.ntmps30
  go_wp2
  go_loopg [5] 8 (fun gg s5 wx => gg ≤ 8 ∧ s5 = .int .i64 ((gg : Int) - 1) ∧ Bld w.heap.size w.heap.size ((be8 d.size).take (8 - gg)) wx ∧ Below w.heap.size w wx)
  case atStart => exact ⟨by omega, rfl, HBl.out, HB.out⟩
  case round =>
    obtain ⟨hn, rfl, ha, hb⟩ := hrel
    clear HBl HB
    have HA := Aside0.mk ha; have HB := Aside0.mk hb
    clear ha hb
    cases gk with
    | zero =>
      have e8 : (be8 d.size).take (8 - 0) = be8 d.size := List.take_of_length_le (by rw [be8_length]; decide)
      rw [e8] at HA
      clear e8
      go_wp2_with (first | (go_at_call 33; (refine (writeString w.heap.size _ _ d _ HA.out (by have := HD.out; rw [be8_length]; omega) HB.out.size).mono ?_); rintro e w2 ⟨rfl, h2, hb, ho⟩; have n1 := Aside0.mk (HB.out.trans hb); have n2 := Aside0.mk h2; clear HA HB h2 hb ho; have HA := n2; have HB := n1; clear n1 n2))
      obtain ⟨pn, hpn⟩ : ∃ pn, pn = pad d.size := ⟨_, rfl⟩
      go_loopg [] pn (fun gg wx => gg ≤ pn ∧ Bld w.heap.size w.heap.size (be8 d.size ++ d.data.toList ++ List.replicate (pn - gg) 0) wx ∧ Below w.heap.size w wx)
      case atStart => exact ⟨Nat.le_refl _, by simpa using HA.out, HB.out⟩
      case round =>
        obtain ⟨hg, ha, hb⟩ := hrel
        clear HA HB
        have HA := Aside0.mk ha; have HB := Aside0.mk hb
        clear ha hb
        have HPN := Aside0.mk hpn
        clear hpn
        obtain ⟨L, hL⟩ : ∃ L, L = 8 + d.size + (pn - gk) := ⟨_, rfl⟩
        have HL : Aside0 ((be8 d.size ++ d.data.toList ++ List.replicate (pn - gk) (0 : UInt8)).length = L) := ⟨by rw [hL]; simp [be8_length]; omega⟩
        have HLD := Aside0.mk hL
        clear hL
        cases gk with
        | zero =>
          have hz : (L : Int).tmod 16 = 0 := by have h5 := HLD.out; have h3 := HPN.out; have h4 := HD.out; unfold pad at h3; rw [Int.tmod_eq_emod_of_nonneg (by omega)]; omega
          have hz2 := hz
          rw [Int.tmod_eq_emod_of_nonneg (by omega)] at hz2
          go_wp2_with (first
            | (go_at_call 49; (refine (lenB HA.out L HL.out).mono ?_); rintro e w2 ⟨rfl, rfl⟩)
            | (go_at_call 34; (refine (stringB HA.out HB.out.size).mono ?_); rintro e w2 ⟨rfl, h2, hb, ho⟩; have n1 := Aside0.mk (HB.out.trans hb); clear HA HB h2 hb ho; have HB := n1; clear n1))
          go_ret
          refine ⟨?_, HB.out⟩
          have e : frameL d.data.toList = be8 d.size ++ (d.data.toList ++ List.replicate pn 0) := by
            rw [frameL, toList_length, HPN.out, List.append_assoc]
          show Ending.returned (Value.string (bs (be8 d.size ++ (d.data.toList ++ List.replicate pn 0)))) = _
          rw [frameW, e]
        | succ gk =>
          have hz : ¬ ((L : Int).tmod 16 = 0) := by have h5 := HLD.out; have h3 := HPN.out; have h4 := HD.out; unfold pad at h3; rw [Int.tmod_eq_emod_of_nonneg (by omega)]; omega
          have hz2 := hz
          rw [Int.tmod_eq_emod_of_nonneg (by omega)] at hz2
          go_wp2_with (first
            | (go_at_call 49; (refine (lenB HA.out L HL.out).mono ?_); rintro e w2 ⟨rfl, rfl⟩)
            | (go_at_call 48; (refine (writeByte w.heap.size _ _ 0 _ HA.out (by rw [HL.out, HLD.out]; have h3 := HPN.out; have h4 := HD.out; unfold pad at h3; omega) HB.out.size).mono ?_); rintro e w2 ⟨rfl, h2, hb, ho⟩; have n1 := Aside0.mk (HB.out.trans hb); have n2 := Aside0.mk h2; clear HA HB h2 hb ho; have HA := n2; have HB := n1; clear n1 n2))
          go_roundg gk
          case measure => omega
          case rel =>
            refine ⟨by omega, ?_, HB.out⟩
            have e : pn - gk = (pn - (gk + 1)) + 1 := by omega
            rw [e, List.replicate_succ', ← List.append_assoc]
            exact HA.out
    | succ gk =>
      have HBY := Aside0.mk (byte_of d.size gk)
      go_wp2_with (first | (go_at_call 48; (rw [HBY.out]; refine (writeByte w.heap.size _ _ _ _ HA.out (by rw [List.length_take, be8_length]; omega) HB.out.size).mono ?_); rintro e w2 ⟨rfl, h2, hb, ho⟩; have n1 := Aside0.mk (HB.out.trans hb); have n2 := Aside0.mk h2; clear HA HB h2 hb ho; have HA := n2; have HB := n1; clear n1 n2))
      go_roundg gk
      case measure => omega
      case rel => exact ⟨by omega, by congr 1, by rw [be8_take _ _ (by omega)]; exact HA.out, HB.out⟩
end Go.Proofs.Ytdegeodegjmddaa.Given

namespace Go.Proofs.Ytdegeodegjmddaa.Given
open Go.RowKit Go.Proofs.YtdegeodegjmddaaW.PrintWords Go.Proofs.YtdegeodegjmddaaW.PrintLast Go.Proofs.YtdegeodegjmddaaW.PrintMore
open Go.Proofs.Ytdegeodegjmddaa.Row Go.Proofs.Ytdegeodegjmddaa.Aes Go.Proofs.Ytdegeodegjmddaa.Row.At Go.Proofs.Ytdegeodegjmddaa.Cbc Go.Proofs.Ytdegeodegjmddaa.Range
set_option maxRecDepth 100000
set_option linter.unusedVariables false
set_option linter.unusedSimpArgs false
attribute [local go_sem] Oper.semAt_some
theorem callsIn_round {n l : Nat} {P : Program} {f : FuncId} {args : Array Value} {w : World} {R : Ending → World → Prop} (h : Calls P f args w R) : CallsIn (Fence.wide.inRound l) n P f args w R := callsIn_wide.2 h

theorem blocks_any (s : ByteArray) (w : World) :
    Calls Try.prog 29 #[.string s] w fun e w' => e = .returned (.func (.func 47) #[] #[.pointer (some ⟨w.heap.size, 0, none⟩)]) ∧ w' = w.alloc (.cells #[.string s] 9) := by
  go_enter Try.func29, Try.ntmps29
  go_wp2
  go_ret
  exact ⟨rfl, rfl⟩

/-- What a round keeps of the iterator's own variable. -/
def KpB (B Bl : Nat) (X Y : World) : Prop := Below B X Y ∧ Y.heap[Bl]? = X.heap[Bl]?

set_option maxHeartbeats 1000000 in
theorem blocks_in (n L Bl B : Nat) (s : ByteArray) (J : List ByteArray → World → Prop)
    (hY : ∀ pre x W, J pre W → (∃ suf, blocksOf s = pre ++ x :: suf) → YieldAt Fence.wide (n - 1) Try.prog L #[.string x] W fun e W' => e = .returned (.bool true) ∧ J (pre ++ [x]) W' ∧ KpB B Bl W W')
    (W : World) (hs : s.size ≤ 140737488355328) (hv : At W Bl 9 [.string s]) (h0 : J [] W) :
    CallsIn Fence.wide n Try.prog 47 #[.func (.yield L) #[] #[], .pointer (some ⟨Bl, 0, none⟩)] W fun e W' => (∃ v, e = .returned v) ∧ J (blocksOf s) W' := by
  refine callsIn_of_wp Try.func47 rfl trivial ?_ rfl
  simp only [Try.ntmps47, List.size_toArray, List.length_cons, List.length_nil, Nat.reduceAdd, Nat.reduceSub, Array.replicate_succ, Array.replicate_zero, List.push_toArray, List.append_toArray, List.nil_append, List.cons_append]
  have HY := Aside0.mk hY
  have HS := Aside0.mk hs
  clear hY hs
  gi_wp2
  gi_loopg [3] (s.size / 16) (fun gg s3 wr => ∃ k : Nat, k + gg = s.size / 16 ∧ s3 = .int .i64 ((16 * k : Nat) : Int) ∧ At wr Bl 9 [.string s] ∧ J ((blocksOf s).take k) wr)
  case atStart => exact ⟨0, by omega, rfl, hv, by simpa using h0⟩
  case round =>
    obtain ⟨k, hk, rfl, ha, hj⟩ := hrel
    have HA := Aside0.mk ha; have HJ := Aside0.mk hj
    clear ha hj hv h0
    have hcell := HA.out.cell 0 _ rfl
    have h1 := HS.out
    have hwr : wrap64 (16 * (k : Int) + 16) = 16 * (k : Int) + 16 := wrap64_of_bounds (by omega) (by omega)
    cases gk with
    | zero =>
      have hle : ¬ (16 * (k : Int) + 16 ≤ (s.size : Int)) := by omega
      clear h1
      gi_wp2
      go_end0
      refine ⟨⟨_, rfl⟩, ?_⟩
      have e : (blocksOf s).take k = blocksOf s := List.take_of_length_le (by rw [blocksOf_length]; omega)
      rw [← e]
      exact HJ.out
    | succ gk =>
      have hle : 16 * (k : Int) + 16 ≤ (s.size : Int) := by omega
      clear h1
      have hlen : k < (blocksOf s).length := by rw [blocksOf_length]; omega
      have hget : (blocksOf s)[k] = s.extract (16 * k) (16 * k + 16) := by simp [blocksOf]
      have hsplit : blocksOf s = (blocksOf s).take k ++ s.extract (16 * k) (16 * k + 16) :: (blocksOf s).drop (k + 1) := by
        rw [← hget, List.getElem_cons_drop, List.take_append_drop]
      have htake : (blocksOf s).take (k + 1) = (blocksOf s).take k ++ [s.extract (16 * k) (16 * k + 16)] := by
        rw [← hget, List.take_append_getElem]
      obtain ⟨fn, tmps, assign, body, hy, hR⟩ := HY.out ((blocksOf s).take k) (s.extract (16 * k) (16 * k + 16)) wr HJ.out ⟨_, hsplit⟩
      have HT := Aside0.mk htake
      clear hsplit hget hlen htake
      gi_wp2
      refine ⟨fun h => (by simp [Fence.wide] at h), hR.mono ?_⟩
      rintro e W3 ⟨rfl, hJ3, hb3, hv3⟩
      have HA3 : Aside0 (At W3 Bl 9 [.string s]) := ⟨⟨hv3.trans HA.out.heap⟩⟩
      have HJ3 := Aside0.mk hJ3
      clear hJ3 hb3 hv3 hcell hR hy
      gi_wp2
      go_roundg gk
      case measure => omega
      case rel => exact ⟨k + 1, by omega, by rw [hwr]; congr 1, HA3.out, by rw [HT.out]; exact HJ3.out⟩
end Go.Proofs.Ytdegeodegjmddaa.Given

namespace Go.Proofs.Ytdegeodegjmddaa.Given
open Go.RowKit Go.Proofs.YtdegeodegjmddaaW.PrintWords Go.Proofs.YtdegeodegjmddaaW.PrintLast Go.Proofs.YtdegeodegjmddaaW.PrintMore
open Go.Proofs.Ytdegeodegjmddaa.Row Go.Proofs.Ytdegeodegjmddaa.Aes Go.Proofs.Ytdegeodegjmddaa.Row.At Go.Proofs.Ytdegeodegjmddaa.Cbc Go.Proofs.Ytdegeodegjmddaa.Range
set_option maxRecDepth 100000
set_option linter.unusedVariables false
set_option linter.unusedSimpArgs false
theorem res_se {fn : Func} {p p' : Tmp} (h : fn.results = #[.cell p 9, .cell p' 25]) (tmps : Array Value) (w : World) (g g' : Nat) (v v' : Value)
    (hp : tmps.getD p undef = .pointer (some ⟨g, 0, none⟩)) (hp' : tmps.getD p' undef = .pointer (some ⟨g', 0, none⟩)) (hc : w.cell? ⟨g, 0, none⟩ = some v) (hc' : w.cell? ⟨g', 0, none⟩ = some v') :
    (results fn tmps).run Try.prog w = .ok (.tuple #[v, v']) w := by
  have h1 : tmps[p]?.getD undef = .pointer (some ⟨g, 0, none⟩) := by simpa using hp
  have h2 : tmps[p']?.getD undef = .pointer (some ⟨g', 0, none⟩) := by simpa using hp'
  simp [results, h, h1, h2, asAddr, go_sem, hc, hc']
/-- A block that is neither the builder nor a row of bytes is kept by what is written. -/
theorem at_others {w w' : World} {g b : Nat} {t : TypeId} {cs : List Value} (h : At w g t cs) (ho : Lib.OthersKept 5 (some b) w w') (hg : g ≠ b) (ht : t ≠ 5) : At w' g t cs :=
  ⟨ho g _ h.heap (by simpa using hg) (fun c fz e => by cases e; exact ht rfl)⟩
theorem others_of {B b : Nat} {w w' : World} (ho : Lib.OthersKept 5 (some b) w w') (hs : w.heap.size ≤ w'.heap.size) (hb : ∃ cs t fr, w.heap[b]? = some (.cells cs t fr)) : Others B w w' := by
  refine ⟨hs, fun k o _ hk hc => ho k o hk (fun e => ?_) (fun c fz e => ?_)⟩
  · cases e
    obtain ⟨cs, t, fr, hb⟩ := hb
    rw [hb] at hk
    cases hk
    cases hc
  · subst e; cases hc
theorem others_below {B : Nat} {w w' : World} (hb : Below w.heap.size w w') : Others B w w' :=
  ⟨hb.size, fun k o _ hk _ => (hb.block k (Array.getElem?_eq_some_iff.1 hk).1).trans hk⟩
theorem others_cell {B : Nat} {w w' : World} {a : Addr} {v : Value} (h : Others B w w') (hc : ∃ cs t fr, w'.heap[a.block]? = some (.cells cs t fr)) : Others B w (w'.setCell a v) := by
  refine ⟨by have := h.1; simpa [World.setCell] using this, fun k o hB hk ho => ?_⟩
  rw [Below.heap_setCell _ _ _ _ (fun e => ?_)]
  · exact h.2 k o hB hk ho
  · have h1 := h.2 k o hB hk ho
    obtain ⟨cs, t, fr, hc⟩ := hc
    rw [e, hc] at h1
    cases h1
    cases ho
theorem others_trans {B : Nat} {a b c : World} (h : Others B a b) (k : Others B b c) : Others B a c :=
  ⟨Nat.le_trans h.1 k.1, fun i o hi e ho => k.2 i o hi (h.2 i o hi e ho) ho⟩
theorem bld_keepA {B b : Nat} {p : Value} {bs : List Value} {w w' : World} (h : Lib.BuilderAtF 54 5 B b p bs w)
    (hk : ∀ k cs t fr, w.heap[k]? = some (.cells cs t fr) → (k = b ∨ t = 5) → w'.heap[k]? = some (.cells cs t fr)) : Lib.BuilderAtF 54 5 B b p bs w' := by
  obtain ⟨hB, v, hb, ⟨hl, hown⟩, hne⟩ := h
  refine ⟨hB, v, hk _ _ _ _ hb (.inl rfl), ⟨hl, ?_⟩, hne⟩
  rcases hown with h0 | ⟨g, cap, cur, fz, hv, hg, hc, r⟩
  · exact .inl h0
  · exact .inr ⟨g, cap, cur, fz, hv, hg, hk _ _ _ _ hc (.inr rfl), r⟩
theorem bld_keep {B b : Nat} {l : List UInt8} {w w' : World} (h : Bld B b l w)
    (hk : ∀ k cs t fr, w.heap[k]? = some (.cells cs t fr) → (k = b ∨ t = 5) → w'.heap[k]? = some (.cells cs t fr)) : Bld B b l w' := by
  rcases h with h | h
  · exact .inl (bld_keepA h hk)
  · exact .inr (bld_keepA h hk)
theorem bld_calm {B Bm b : Nat} {l : List UInt8} {w w' : World} (h : Bld B b l w) (hc : Range.Calm Bm w w') : Bld B b l w' := bld_keep h fun k cs t fr hk _ => hc.cells hk
theorem bld_below {B b : Nat} {l : List UInt8} {w w' : World} (h : Bld B b l w) (hb : Below w.heap.size w w') : Bld B b l w' :=
  bld_keep h fun k cs t fr hk _ => (hb.block k (Array.getElem?_eq_some_iff.1 hk).1).trans hk
theorem bld_alloc {B b : Nat} {l : List UInt8} {w : World} (h : Bld B b l w) (o : Obj) : Bld B b l (w.alloc o) :=
  bld_keep h fun k cs t fr hk _ => (Below.heap_alloc w o k (Array.getElem?_eq_some_iff.1 hk).1).trans hk
theorem bld_cell {B b g : Nat} {l : List UInt8} {t : TypeId} {cs : List Value} {w : World} (h : Bld B b l w) (ha : At w g t cs) (hg : g ≠ b) (ht : t ≠ 5) (j : Nat) (v : Value) : Bld B b l (w.setCell ⟨g, j, none⟩ v) :=
  bld_keep h fun k cs t' fr hk hor => (Below.heap_setCell w ⟨g, j, none⟩ v k (fun e => by
    have e' : k = g := e
    subst e'
    rcases hor with h1 | h1
    · exact hg h1
    · rw [ha.heap] at hk; cases hk; exact ht h1)).trans hk
theorem bld_mono {B B' b : Nat} {l : List UInt8} {w : World} (h : Bld B b l w) (hB : B' ≤ B) : Bld B' b l w := by
  rcases h with ⟨h1, v, hb, ⟨hl, hown⟩, hne⟩ | ⟨h1, v, hb, ⟨hl, hown⟩, hne⟩
  · refine .inl ⟨Nat.le_trans hB h1, v, hb, ⟨hl, ?_⟩, hne⟩
    rcases hown with h0 | ⟨g, cap, cur, fz, hv, hg, r⟩
    · exact .inl h0
    · exact .inr ⟨g, cap, cur, fz, hv, Nat.le_trans hB hg, r⟩
  · refine .inr ⟨Nat.le_trans hB h1, v, hb, ⟨hl, ?_⟩, hne⟩
    rcases hown with h0 | ⟨g, cap, cur, fz, hv, hg, r⟩
    · exact .inl h0
    · exact .inr ⟨g, cap, cur, fz, hv, Nat.le_trans hB hg, r⟩
theorem bld_block {B b : Nat} {l : List UInt8} {w : World} (h : Bld B b l w) : ∃ cs t fr, w.heap[b]? = some (.cells cs t fr) := by
  rcases h with ⟨_, v, hb, _⟩ | ⟨_, v, hb, _⟩ <;> exact ⟨_, _, _, hb⟩
theorem at_calm {Bm g : Nat} {t : TypeId} {cs : List Value} {w w' : World} (h : At w g t cs) (hc : Range.Calm Bm w w') : At w' g t cs := ⟨hc.cells h.heap⟩
theorem at_go {g : Nat} {t : TypeId} {cs : List Value} {w w' : World} (h : At w g t cs) (hb : Below w.heap.size w w') : At w' g t cs := h.below hb h.lt
theorem begin_ok (key first : ByteArray) (hk : key.size = 32) (hf : first.size = 16) (w : World) :
    Calls Try.prog 28 #[.string key, .string first] w fun e w' => e = .returned (.tuple #[.pointer (some ⟨w.heap.size, 0, none⟩), .int .i64 0]) ∧ At w' w.heap.size 80 (b8s (cipher key.data.toList)) ∧ Below w.heap.size w w' := by
  have HK := Aside0.mk hk
  have s1 : ((first.size : Int) != 16) = false := by rw [hf]; rfl
  go_enter Try.func28, Try.ntmps28
  go_wp2_with (first | (go_at_call 46; (with_reducible refine (new_ok key HK.out _).mono ?_); rintro e w' ⟨rfl, hc, hb⟩; have HC := Aside0.mk (And.intro hc hb); clear hc hb))
  go_ret2
  exact ⟨rfl, HC.out.1, HC.out.2⟩
theorem begin_arg (key first : ByteArray) (h : ¬ (key.size = 32 ∧ first.size = 16)) (w : World) :
    Calls Try.prog 28 #[.string key, .string first] w fun e w' => e = .returned (.tuple #[.pointer none, .int .i64 1]) ∧ w' = w := by
  by_cases hf : first.size = 16
  · have HK : Aside0 (key.size ≠ 32) := ⟨fun e => h ⟨e, hf⟩⟩
    have s1 : ((first.size : Int) != 16) = false := by rw [hf]; rfl
    clear h
    go_enter Try.func28, Try.ntmps28
    go_wp2_with (first | (go_at_call 46; (with_reducible refine (new_arg key HK.out _).mono ?_); rintro e w' ⟨rfl, rfl⟩))
    go_ret2
    exact ⟨rfl, rfl⟩
  · have s1 : ((first.size : Int) != 16) = true := by rw [bne_iff_ne]; omega
    clear h
    go_enter Try.func28, Try.ntmps28
    go_wp2
    go_ret2
    exact ⟨rfl, rfl⟩
end Go.Proofs.Ytdegeodegjmddaa.Given
