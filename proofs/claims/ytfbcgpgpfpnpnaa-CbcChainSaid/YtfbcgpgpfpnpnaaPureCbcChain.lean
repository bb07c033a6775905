/- Two whose frames begin by the same blocks are sealed to the same blocks so far, and to another one behind that. Conditions: none but the statement's own. -/
import Derived.Test.YtfbcgpgpfpnpnaaPCbcChainx1
import Derived.Test.YtfbcgpgpfpnpnaaCbcP
namespace Go.Proofs.Ytfbcgpgpfpnpnaa.Pure
open Go.RowKit Go.Proofs.Ytfbcgpgpfpnpnaa.PCbcChain Go.Proofs.YtfbcgpgpfpnpnaaW.PrintWords Go.Proofs.YtfbcgpgpfpnpnaaW.PrintLast Go.Proofs.YtfbcgpgpfpnpnaaW.PrintMore

set_option linter.unusedVariables false
set_option linter.unusedSimpArgs false

open Given Cbc in
theorem enc_inj (key a b last : ByteArray) (hk : key.size = 32) (ha : a.size = 16) (hb : b.size = 16) (hl : last.size = 16) (h : encW key (xorW a last) = encW key (xorW b last)) : a = b := by
  have h2 := congrArg (decW key) h
  rw [decW_encW _ _ hk (xorW_size _ _ ha hl), decW_encW _ _ hk (xorW_size _ _ hb hl)] at h2
  have h3 : xorW (xorW a last) last = xorW (xorW b last) last := by rw [h2]
  rwa [xor_xor _ _ ha hl, xor_xor _ _ hb hl] at h3
/-- The last block ahead of place j. -/
def lastAt (first : ByteArray) (l : List ByteArray) (j : Nat) : ByteArray := if j = 0 then first else l.getD (j - 1) ⟨#[]⟩
open Given Cbc in
theorem chainC_at (key : ByteArray) (l : List ByteArray) : ∀ first j, j < l.length → (chainC key first l)[j]? = some (encW key (xorW (l.getD j ⟨#[]⟩) (lastAt first (chainC key first l) j))) := by
  induction l with
  | nil => intro _ j h; simp at h
  | cons b l ih =>
    intro first j h
    cases j with
    | zero => simp [chainC, lastAt]
    | succ j =>
      simp only [chainC, List.getElem?_cons_succ]
      rw [ih _ j (by simpa using h)]
      congr 2
      cases j with
      | zero => simp [lastAt]
      | succ j => simp [lastAt]
open Given Cbc in
theorem block_at (s : ByteArray) (j : Nat) (h : 16 * j + 16 ≤ s.size) : s.extract (16 * j) (16 * j + 16) = (blocksOf s).getD j ⟨#[]⟩ := by
  rw [List.getD_eq_getElem?_getD, blocksOf, List.getElem?_map, List.getElem?_range (by omega)]
  rfl
open Given Cbc in
theorem chain_loop (key first one two : ByteArray) (hk : key.size = 32) (hf : first.size = 16) (hx : (frameW one).size < 10000) (hy : (frameW two).size < 10000) :
    ∀ d j : Nat, j + d = 1000 → (∀ i, i < j → (chainC key first (blocksOf (frameW one))).getD i ⟨#[]⟩ = (chainC key first (blocksOf (frameW two))).getD i ⟨#[]⟩) →
      ∀ k, 2 * d + 2 ≤ k → hamperlaw10_CbcChain.l0 k (sealW key first one) (sealW key first two) (frameW one) (frameW two) ((16 * j : Nat) : Int) = some true := by
  intro d
  have mx := frameW_mod one
  have my := frameW_mod two
  have sx := sealW_size key first one
  have sy := sealW_size key first two
  induction d with
  | zero =>
    intro j hj _ k hk2
    obtain ⟨k, rfl⟩ : ∃ m, k = m + 2 := ⟨k - 2, by omega⟩
    have e : wrap64 (((16 * j : Nat) : Int) + 16) = ((16 * j + 16 : Nat) : Int) := by unfold wrap64; omega
    simp only [hamperlaw10_CbcChain.l0]
    rw [e, if_neg (by omega)]
    simp [hamperlaw10_CbcChain.j3]
  | succ d ih =>
    intro j hj hall k hk2
    obtain ⟨k, rfl⟩ : ∃ m, k = m + 2 := ⟨k - 2, by omega⟩
    have e : wrap64 (((16 * j : Nat) : Int) + 16) = ((16 * j + 16 : Nat) : Int) := by unfold wrap64; omega
    simp only [hamperlaw10_CbcChain.l0]
    rw [e]
    by_cases h1 : ((16 * j + 16 : Nat) : Int) ≤ ((frameW one).size : Int)
    · by_cases h2 : ((16 * j + 16 : Nat) : Int) ≤ ((frameW two).size : Int)
      · rw [if_pos h1, decide_eq_true h2]
        simp only [hamperlaw10_CbcChain.j3, if_true, e, Int.toNat_natCast]
        rw [if_pos (by omega), if_pos (by omega), if_pos (by omega), if_pos (by omega), if_pos h1, if_pos h2]
        rw [block_at _ j (by omega), block_at _ j (by omega), block_at _ j (by omega), block_at _ j (by omega), blocks_sealW, blocks_sealW]
        have l1 : j < (blocksOf (frameW one)).length := by rw [blocksOf_length]; omega
        have l2 : j < (blocksOf (frameW two)).length := by rw [blocksOf_length]; omega
        have c1 := chainC_at key (blocksOf (frameW one)) first j l1
        have c2 := chainC_at key (blocksOf (frameW two)) first j l2
        have hlast : lastAt first (chainC key first (blocksOf (frameW one))) j = lastAt first (chainC key first (blocksOf (frameW two))) j := by
          unfold lastAt
          split
          · rfl
          · exact hall (j - 1) (by omega)
        have hls : (lastAt first (chainC key first (blocksOf (frameW two))) j).size = 16 := by
          unfold lastAt
          split
          · exact hf
          · rw [List.getD_eq_getElem?_getD, List.getElem?_eq_getElem (by rw [chainC_length]; omega)]
            exact chainC_size _ _ _ _ (List.getElem_mem _)
        have g1 : (chainC key first (blocksOf (frameW one))).getD j ⟨#[]⟩ = encW key (xorW ((blocksOf (frameW one)).getD j ⟨#[]⟩) (lastAt first (chainC key first (blocksOf (frameW two))) j)) := by
          rw [List.getD_eq_getElem?_getD, c1, hlast]; rfl
        have g2 : (chainC key first (blocksOf (frameW two))).getD j ⟨#[]⟩ = encW key (xorW ((blocksOf (frameW two)).getD j ⟨#[]⟩) (lastAt first (chainC key first (blocksOf (frameW two))) j)) := by
          rw [List.getD_eq_getElem?_getD, c2]; rfl
        have z1 : ((blocksOf (frameW one)).getD j ⟨#[]⟩).size = 16 := by
          rw [List.getD_eq_getElem?_getD, List.getElem?_eq_getElem l1]; exact blocksOf_size _ _ (List.getElem_mem _)
        have z2 : ((blocksOf (frameW two)).getD j ⟨#[]⟩).size = 16 := by
          rw [List.getD_eq_getElem?_getD, List.getElem?_eq_getElem l2]; exact blocksOf_size _ _ (List.getElem_mem _)
        have hiff : (chainC key first (blocksOf (frameW one))).getD j ⟨#[]⟩ = (chainC key first (blocksOf (frameW two))).getD j ⟨#[]⟩ ↔ (blocksOf (frameW one)).getD j ⟨#[]⟩ = (blocksOf (frameW two)).getD j ⟨#[]⟩ := by
          rw [g1, g2]
          exact ⟨enc_inj key _ _ _ hk z1 z2 hls, fun h => by rw [h]⟩
        have hi2 : ((chainC key first (blocksOf (frameW one))).getD j ⟨#[]⟩).toList = ((chainC key first (blocksOf (frameW two))).getD j ⟨#[]⟩).toList ↔ ((blocksOf (frameW one)).getD j ⟨#[]⟩).toList = ((blocksOf (frameW two)).getD j ⟨#[]⟩).toList := by
          constructor
          · intro h; rw [hiff.1 (toList_inj h)]
          · intro h; rw [hiff.2 (toList_inj h)]
        have hbq : (((chainC key first (blocksOf (frameW one))).getD j ⟨#[]⟩).toList == ((chainC key first (blocksOf (frameW two))).getD j ⟨#[]⟩).toList) = (((blocksOf (frameW one)).getD j ⟨#[]⟩).toList == ((blocksOf (frameW two)).getD j ⟨#[]⟩).toList) := by
          rw [Bool.eq_iff_iff, beq_iff_eq, beq_iff_eq]; exact hi2
        by_cases hs : ((chainC key first (blocksOf (frameW one))).getD j ⟨#[]⟩).toList = ((chainC key first (blocksOf (frameW two))).getD j ⟨#[]⟩).toList
        · rw [if_pos hs, if_pos (hi2.1 hs)]
          have e3 : (16 * j + 16 : Nat) = 16 * (j + 1) := by omega
          rw [e3]
          refine ih (j + 1) (by omega) (fun i hi => ?_) k (by omega)
          by_cases hij : i < j
          · exact hall i hij
          · obtain rfl : i = j := by omega
            exact toList_inj hs
        · rw [if_neg hs, if_pos h1, if_pos h2, hbq]
          simp
      · rw [if_pos h1, decide_eq_false h2]
        simp [hamperlaw10_CbcChain.j3]
    · rw [if_neg h1]
      simp [hamperlaw10_CbcChain.j3]
open Given Cbc in
theorem CbcChain : hamperlaw10_CbcChain.Pure := by
  intro a0 a1 a2 a3 h0 h1 h2 h3
  unfold hamperlaw10_CbcChain.f
  have hj : ∀ k, hamperlaw10_CbcChain.j0 (k + 1) a0 a1 a2 a3 true = some true := fun k => by simp [hamperlaw10_CbcChain.j0, law10_awake.f]
  by_cases hk : (a0.size : Int) = 32
  · by_cases hf : (a1.size : Int) = 16
    · by_cases b2 : (a2.size : Int) > 600
      · exact ⟨1, by rw [if_pos hk, if_pos hf, if_pos b2]; exact hj 0⟩
      by_cases b3 : (a3.size : Int) > 600
      · exact ⟨1, by rw [if_pos hk, if_pos hf, if_neg b2, if_pos b3]; exact hj 0⟩
      have s2 := frameW_size a2
      have s3 := frameW_size a3
      have p2 : pad a2.size < 16 := by unfold pad; omega
      have p3 : pad a3.size < 16 := by unfold pad; omega
      obtain ⟨K, hK⟩ : ∃ K, K = 2008 := ⟨_, rfl⟩
      refine ⟨K + 2, ?_⟩
      rw [if_pos hk, if_pos hf, if_neg b2, if_neg b3]
      simp only [law10_awake.f, Option.bind_some, Bool.not_true, hamperlaw10_CbcChain.j0, Bool.false_eq_true, if_false]
      rw [seal_f _ _ _ (by omega) (by omega) (by omega), seal_f _ _ _ (by omega) (by omega) (by omega)]
      simp only [Option.bind_some, if_true, bne_self_eq_false, hamperlaw10_CbcChain.j1, Bool.false_eq_true, if_false]
      have f2 : cbc_Frame.f a2 = some (frameW a2) := by unfold cbc_Frame.f; rw [if_pos h2]
      have f3 : cbc_Frame.f a3 = some (frameW a3) := by unfold cbc_Frame.f; rw [if_pos h3]
      rw [f2, f3]
      simp only [Option.bind_some]
      exact chain_loop a0 a1 a2 a3 (by omega) (by omega) (by omega) (by omega) 1000 0 (by omega) (fun i hi => by omega) _ (by omega)
    · exact ⟨1, by rw [if_pos hk, if_neg hf]; exact hj 0⟩
  · exact ⟨1, by rw [if_neg hk]; exact hj 0⟩

end Go.Proofs.Ytfbcgpgpfpnpnaa.Pure
