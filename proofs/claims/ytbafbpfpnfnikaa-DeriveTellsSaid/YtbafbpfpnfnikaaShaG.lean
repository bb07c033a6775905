/- Contracts of sha's Sum, of a hash and of bytes. Conditions: a hash in memory; fewer than 2^47 bytes. -/
import Derived.Test.YtbafbpfpnfnikaaShaF
namespace Go.Proofs.Ytbafbpfpnfnikaa.Given
open Go.RowKit Go.Proofs.YtbafbpfpnfnikaaW.PrintWords Go.Proofs.YtbafbpfpnfnikaaW.PrintLast Go.Proofs.YtbafbpfpnfnikaaW.PrintMore
open Go.Proofs.Ytbafbpfpnfnikaa.Row Go.Proofs.Ytbafbpfpnfnikaa.Row.At
set_option maxRecDepth 100000
set_option linter.unusedVariables false
set_option linter.unusedSimpArgs false
attribute [-simp] Try.isAgg53 Try.sizeOf53 Try.isAgg51 Try.isAgg49
/-- what fills the last piece up -/
def noughts (n : Nat) : Nat := (119 - n) % 64
def tailW (n many : Nat) : ByteArray := (⟨#[128]⟩ : ByteArray) ++ ⟨(Lib.repeatL [0] (noughts n)).toArray⟩ ++ ⟨(bytesL (8 * many) 8).toArray⟩
def lastS (s : List UInt32) (rest : ByteArray) (many : Nat) : List UInt32 := (eat ((rest ++ tailW rest.size many).size / 64) s (rest ++ tailW rest.size many)).1
def outW (s : List UInt32) (i : Nat) : ByteArray := ⟨((List.range i).flatMap fun j => bytesL (gw s j).toNat 4).toArray⟩
/-- the digest of what was added -/
def sumW (s : List UInt32) (rest : ByteArray) (many : Nat) : ByteArray := outW (lastS s rest many) 8
theorem outW_succ (s : List UInt32) (i : Nat) : outW s i ++ ⟨(bytesL (gw s i).toNat 4).toArray⟩ = outW s (i + 1) := by
  unfold outW
  rw [List.range_succ, List.flatMap_append]
  apply ByteArray.ext
  simp
theorem hCells_one (s : List UInt32) (r : ByteArray) (m : Nat) (c : List UInt32) : ∀ v ∈ hCells s r m c, v.oneCell' = true := by
  intro v hv
  simp only [hCells, List.mem_append, List.mem_cons] at hv
  rcases hv with h | rfl | rfl | h
  · exact u32s_one s v h
  · rfl
  · rfl
  · exact u32s_one c v h
theorem outW_size (s : List UInt32) (i : Nat) : (outW s i).size = 4 * i := by
  show ((List.range i).flatMap fun j => bytesL (gw s j).toNat 4).toArray.size = 4 * i
  rw [List.size_toArray]
  induction i with
  | zero => rfl
  | succ i ih => rw [List.range_succ, List.flatMap_append, List.length_append, ih]; simp [bytesL_length]; omega
theorem index8 (l : List UInt32) (i : Nat) (h : i < 8) (hl : l.length = 8) (w : World) : (Instr.index 49 (.agg (u32s l).toArray) (.int .i64 (i : Int))).run Try.prog w = .ok (.int .u32 ((gw l i).toNat : Int)) w := by
  have h1 : (0 : Int) ≤ (i : Int) ∧ (i : Int) < 8 := by omega
  have h2 := u32s_get l i (by omega)
  simp [Instr.index, go_sem, h1, part, h2]
  omega
theorem repeatL_length (z : Nat) : (Lib.repeatL [0] z).length = z := by
  induction z with
  | zero => rfl
  | succ z ih => simp [Lib.repeatL, ih]; try omega
set_option maxHeartbeats 2000000 in
theorem shaSum_any (s : List UInt32) (rest : ByteArray) (many : Nat) (hs : s.length = 8) (hr : rest.size < 64) (hm : many < 1152921504606846976) (g : Nat) (w : World) (h : At w g 53 (hCells s rest many KK)) :
    Calls Try.prog 17 #[.pointer (some ⟨g, 0, none⟩)] w fun e w' => e = .returned (.string (sumW s rest many)) ∧ Below w.heap.size w w' := by
  have HS := Aside0.mk hs
  have HR := Aside0.mk hr
  have HH := Aside0.mk h
  have z1 := (zero_of_info infoH).1
  obtain ⟨q, hq⟩ : ∃ q : Nat, q = 119 - rest.size := ⟨_, rfl⟩
  obtain ⟨z, hz⟩ : ∃ z : Nat, z = noughts rest.size := ⟨_, rfl⟩
  have e1 : wrap64 (119 - (rest.size : Int)) = (q : Int) := by rw [show 119 - (rest.size : Int) = (q : Int) by omega]; exact wrap64_of_bounds (by omega) (by omega)
  have e2 : (q : Int).tmod 64 = (z : Int) := by rw [Int.tmod_eq_emod_of_nonneg (by omega), hz, noughts, ← hq]; rfl
  have e2b : (q : Int) % 64 = (z : Int) := by rw [hz, noughts, ← hq]; rfl
  obtain ⟨m8, hm8⟩ : ∃ m8 : Nat, m8 = 8 * many := ⟨_, rfl⟩
  have e3 : IntKind.u64.wrap (8 * (many : Int)) = (m8 : Int) := by rw [IntKind.wrap_u64]; omega
  have HZ := Aside0.mk (And.intro hz (And.intro hq hm8))
  have HZ0 : Aside0 (At (w.alloc (.cells (hCells (List.replicate 8 0) ⟨#[]⟩ 0 (List.replicate 64 0)).toArray 53 (0, 0))) w.heap.size 53 (hCells (List.replicate 8 0) ⟨#[]⟩ 0 (List.replicate 64 0))) := ⟨At.newAt rfl⟩
  obtain ⟨zc, hzc⟩ : ∃ zc, zc = hCells (List.replicate 8 0) ⟨#[]⟩ 0 (List.replicate 64 0) := ⟨_, rfl⟩
  rw [← hzc] at z1 HZ0
  have HZL : Aside0 (zc.length = 74) := ⟨by rw [hzc]; exact hCells_length _ _ _ _ (by simp) (by simp)⟩
  have HHL : Aside0 ((hCells s rest many KK).length = 74) := ⟨hCells_length _ _ _ _ hs KK_length⟩
  have c1 := h.cell 9 _ (hCells_many s rest many KK hs)
  clear hs hr hm h hq hz hm8 hzc
  go_enter Try.func17, Try.ntmps17
  go_wp2_with (first
    | ((with_reducible refine gate_dst (N := 13) rfl ?_); refine HH.out.load _ _ rfl rfl rfl _ Try.underlying53 rfl (by rw [HHL.out]; exact (zero_of_info infoH).2) ?_)
    | ((with_reducible refine gate_store (t := 53) (p := 3) rfl ?_); refine HZ0.out.store _ _ _ (hCells s rest many KK) rfl rfl rfl rfl (by rw [HHL.out, HZL.out]) (by rw [HHL.out]; exact (zero_of_info infoH).2) (hCells_one s rest many KK) ?_; have n1 := HZ0.out.setRow (hCells s rest many KK); have n2 := (HH.out.alloc (.cells zc.toArray 53 (0, 0))).setRow_other w.heap.size (hCells s rest many KK) (by have := HH.out.lt; omega); have n3 := At.row_below ((Below.refl w.heap.size w).alloc (Nat.le_refl _) (.cells zc.toArray 53 (0, 0))) (Nat.le_refl _) (hCells s rest many KK).toArray; obtain ⟨w1, hw1⟩ : ∃ w1, w1 = (w.alloc (.cells zc.toArray 53 (0, 0))).setRow w.heap.size (hCells s rest many KK).toArray := ⟨_, rfl⟩; have n4 : w1.heap.size = w.heap.size + 1 := (by rw [hw1]; simp); rw [← hw1] at n1 n2 n3 ⊢; have HC := Aside0.mk n1; have HH1 := Aside0.mk n2; have HB1 := Aside0.mk n3; have HS1 := Aside0.mk n4; have c8 := HC.out.cell 8 _ (hCells_rest s rest many KK HS.out); have c9 := HH1.out.cell 9 _ (hCells_many s rest many KK HS.out); clear n1 n2 n3 n4 hw1 HH HZ0 z1 c1))
  obtain ⟨rs, hrs⟩ : ∃ rs : ByteArray, rs = ⟨(Lib.repeatL [0] z).toArray⟩ := ⟨_, rfl⟩
  obtain ⟨bz, hbz⟩ : ∃ bz : ByteArray, bz = ⟨(bytesL m8 8).toArray⟩ := ⟨_, rfl⟩
  have hz64 : z < 64 := by rw [HZ.out.1, noughts]; omega
  have hrl : rs.size = z := by rw [hrs]; show (Lib.repeatL [0] z).toArray.size = z; rw [List.size_toArray, repeatL_length]
  have hbl : bz.size = 8 := by rw [hbz]; show (bytesL m8 8).toArray.size = 8; rw [List.size_toArray, bytesL_length]
  have REP : Aside0 (∀ w, Calls Try.prog 35 #[.string ⟨#[0]⟩, .int .i64 z] w fun e w' => e = .returned (.string rs) ∧ Below w.heap.size w w') := ⟨fun w => by
    rw [hrs]
    exact Try.strings_Repeat ⟨#[0]⟩ z w (by omega) (by have : (⟨#[0]⟩ : ByteArray).size = 1 := rfl; rw [this]; omega)⟩
  have BYT : Aside0 (∀ w, Calls Try.prog 36 #[.int .u64 m8, .int .i64 8] w fun e w' => e = .returned (.string bz) ∧ Below w.heap.size w w') := ⟨fun w => by
    rw [hbz]
    exact bytes_any m8 8 (by decide) w⟩
  have s128 : (⟨#[128]⟩ : ByteArray).size = 1 := rfl
  have k1 : (⟨#[128]⟩ : ByteArray).size + rs.size ≤ 9223372036854775807 := by rw [s128]; omega
  have k2 : ((⟨#[128]⟩ : ByteArray) ++ rs).size + bz.size ≤ 9223372036854775807 := by rw [ByteArray.size_append, s128]; omega
  have k3 : 1 + rs.size ≤ 9223372036854775807 := by omega
  have k4 : 1 + rs.size + bz.size ≤ 9223372036854775807 := by omega
  have HT : Aside0 ((⟨#[128]⟩ : ByteArray) ++ rs ++ bz = tailW rest.size many) := ⟨by rw [hrs, hbz, HZ.out.1, HZ.out.2.2]; rfl⟩
  obtain ⟨tw, htw⟩ : ∃ tw, tw = (⟨#[128]⟩ : ByteArray) ++ rs ++ bz := ⟨_, rfl⟩
  have HTW := Aside0.mk htw
  have HTB : Aside0 (rest.size + tw.size ≤ 140737488355328) := ⟨by rw [htw, ByteArray.size_append, ByteArray.size_append, s128]; have := HR.out; omega⟩
  obtain ⟨S2, hS2⟩ : ∃ S2, S2 = (eat ((rest ++ tw).size / 64) s (rest ++ tw)).1 := ⟨_, rfl⟩
  have HS2L : Aside0 (S2.length = 8) := ⟨by rw [hS2]; exact eat_length _ _ _ HS.out⟩
  have HSUM : Aside0 (outW S2 8 = sumW s rest many) := ⟨by rw [hS2, htw, HT.out]; rfl⟩
  have HS2 := Aside0.mk hS2
  have n0 := Aside0.mk (At.drew HC.out)
  have n1 := Aside0.mk HB1.out.drew
  have n2 := Aside0.mk (At.drew HH1.out)
  clear hS2 HC HB1 HH1 hrs hbz hz64 hrl hbl s128 htw c8 e1 e2 e2b
  have HC := n0
  have HB1 := n1
  have HH1 := n2
  clear n0 n1 n2
  go_region_with (first
    | (go_at_call 35; refine (REP.out _).mono ?_; rintro e w2 ⟨rfl, hb⟩; have n1 := Aside0.mk (at_go1 HC.out hb); have n2 := Aside0.mk (HB1.out.trans (hb.mono HB1.out.size)); have n3 := Aside0.mk (at_go1 HH1.out hb); clear HC HB1 HH1 hb c9; have HC := n1; have HB1 := n2; have HH1 := n3; clear n1 n2 n3; have c9 := HH1.out.cell 9 _ (hCells_many s rest many KK HS.out))
    | (go_at_call 36; refine (BYT.out _).mono ?_; rintro e w2 ⟨rfl, hb⟩; have n1 := Aside0.mk (at_go1 HC.out hb); have n2 := Aside0.mk (HB1.out.trans (hb.mono HB1.out.size)); have n3 := Aside0.mk (at_go1 HH1.out hb); clear HC HB1 HH1 hb c9; have HC := n1; have HB1 := n2; have HH1 := n3; clear n1 n2 n3; have c9 := HH1.out.cell 9 _ (hCells_many s rest many KK HS.out))
    | (go_at_call 34; rw [← HTW.out]; refine (add_any s rest tw many HS.out HTB.out w.heap.size _ HC.out).mono ?_; rw [← HS2.out]; rintro e w3 ⟨rfl, h2, hg⟩; have n2 := Aside0.mk (hg.bel HB1.out HB1.out.size (Nat.le_refl _)); clear HC HB1 HH1 hg c9; have HC := Aside0.mk h2; have HB1 := n2; clear n2 h2))
  all_goals
    have HCE : Aside0 (∀ j v, (u32s S2)[j]? = some v → w3.cell? ⟨w.heap.size, 0 + j, none⟩ = some v) := ⟨fun j v hj => by
      have hjl : j < 8 := by have := (List.getElem?_eq_some_iff.1 hj).1; rw [u32s_length, HS2L.out] at this; exact this
      rw [Nat.zero_add, HC.out.cell j _ (hCells_state S2 _ many KK j HS2L.out hjl)]
      rw [u32s_get _ _ (by rw [HS2L.out]; exact hjl)] at hj
      exact hj⟩
    have z110 := Try.sizeOf49
    clear k1 k2 k3 k4
    go_wp2_with ((with_reducible refine gate_dst (N := 31) rfl ?_); refine wpList_load_mid rfl _ _ rfl w.heap.size 0 rfl (u32s S2) _ HCE.out Try.underlying49 rfl (by rw [u32s_length, HS2L.out]; exact infoS8) ?_)
    go_loopg [5, 32] 8 (fun gg s5 s32 wx => ∃ i : Nat, i + gg = 8 ∧ s32 = .int .i64 i ∧ s5 = .string (outW S2 i) ∧ Below w.heap.size w wx)
    case atStart => exact ⟨0, by omega, rfl, rfl, HB1.out⟩
    case round =>
      obtain ⟨i, hi, rfl, rfl, hb⟩ := hrel
      clear HB1 HC HCE
      have HB := Aside0.mk hb
      clear hb
      cases gk with
      | zero =>
        have hi8 : i = 8 := by omega
        subst hi8
        go_wp2
        go_ret
        exact ⟨by rw [← HSUM.out]; rfl, HB.out⟩
      | succ gk =>
        have hi8 : (i : Int) < 8 := by omega
        have hix := index8 S2 i (by omega) HS2L.out wr
        have hcv : IntKind.u64.wrap ((gw S2 i).toNat : Int) = ((gw S2 i).toNat : Int) := by have := (gw S2 i).toNat_lt; rw [IntKind.wrap_u64]; omega
        obtain ⟨o, ho⟩ : ∃ o, o = outW S2 i := ⟨_, rfl⟩
        obtain ⟨by4, hby⟩ : ∃ b : ByteArray, b = ⟨(bytesL (gw S2 i).toNat 4).toArray⟩ := ⟨_, rfl⟩
        have ho2 : o.size + by4.size ≤ 9223372036854775807 := by rw [ho, hby, outW_size]; show 4 * i + (bytesL (gw S2 i).toNat 4).toArray.size ≤ _; rw [List.size_toArray, bytesL_length]; omega
        have HO : Aside0 (o ++ by4 = outW S2 (i + 1)) := ⟨by rw [ho, hby]; exact outW_succ S2 i⟩
        have BY4 : Aside0 (∀ w, Calls Try.prog 36 #[.int .u64 (gw S2 i).toNat, .int .i64 4] w fun e w' => e = .returned (.string by4) ∧ Below w.heap.size w w') := ⟨fun w => by
          rw [hby]
          exact bytes_any (gw S2 i).toNat 4 (by decide) w⟩
        rw [← ho]
        clear ho hby
        go_wp2_with (go_at_call 36; refine (BY4.out _).mono ?_; rintro e w4 ⟨rfl, hb⟩; have n2 := Aside0.mk (HB.out.trans (hb.mono HB.out.size)); clear HB hb; have HB := n2; clear n2)
        rw [HO.out]
        go_roundg gk
        case measure => omega
        case rel => exact ⟨i + 1, by omega, rfl, rfl, HB.out⟩
end Go.Proofs.Ytbafbpfpnfnikaa.Given
