/- Open of Seal is the data; Seal of Open the bytes; a sealed text without its last block is refused. Conditions: none but the statement's own. -/
import Derived.Test.YtfbcgpgpfpnpnaaPCbcBackx1
import Derived.Test.YtfbcgpgpfpnpnaaCbcP
namespace Go.Proofs.Ytfbcgpgpfpnpnaa.Pure
open Go.RowKit Go.Proofs.Ytfbcgpgpfpnpnaa.PCbcBack Go.Proofs.YtfbcgpgpfpnpnaaW.PrintWords Go.Proofs.YtfbcgpgpfpnpnaaW.PrintLast Go.Proofs.YtfbcgpgpfpnpnaaW.PrintMore

set_option linter.unusedVariables false
set_option linter.unusedSimpArgs false

open Given Cbc in
theorem CbcBack : hamperlaw10_CbcBack.Pure := by
  intro a0 a1 a2 a3 h0 h1 h2 h3
  unfold hamperlaw10_CbcBack.f
  by_cases b0 : (a0.size : Int) > 100
  · exact ⟨1, by rw [if_pos b0]; simp [hamperlaw10_CbcBack.j0, law10_awake.f]⟩
  by_cases b1 : (a1.size : Int) > 100
  · exact ⟨1, by rw [if_neg b0, if_pos b1]; simp [hamperlaw10_CbcBack.j0, law10_awake.f]⟩
  by_cases b2 : (a2.size : Int) > 600
  · exact ⟨1, by rw [if_neg b0, if_neg b1, if_pos b2]; simp [hamperlaw10_CbcBack.j0, law10_awake.f]⟩
  by_cases b3 : (a3.size : Int) > 600
  · exact ⟨1, by rw [if_neg b0, if_neg b1, if_neg b2, if_pos b3]; simp [hamperlaw10_CbcBack.j0, law10_awake.f]⟩
  refine ⟨3, ?_⟩
  rw [if_neg b0, if_neg b1, if_neg b2, if_neg b3]
  simp only [law10_awake.f, Option.bind_some, Bool.not_true, hamperlaw10_CbcBack.j0, Bool.false_eq_true, if_false]
  by_cases hkf : a0.size = 32 ∧ a1.size = 16
  · obtain ⟨hk, hf⟩ := hkf
    have hsz := sealW_size a0 a1 a2
    have hfz := frameW_size a2
    have hfm := frameW_mod a2
    have hp : pad a2.size < 16 := by unfold pad; omega
    rw [seal_f _ _ _ hk hf (by omega)]
    simp only [Option.bind_some, if_true]
    rw [open_f _ _ _ hk hf (by omega) (by omega) (by omega), open_seal _ _ _ hk hf (by omega)]
    simp only [Option.bind_some, if_true]
    have hfr : cbc_Frame.f a2 = some (frameW a2) := by unfold cbc_Frame.f; rw [if_pos h2]
    rw [hfr]
    simp only [Option.bind_some, hsz, bne_self_eq_false, hamperlaw10_CbcBack.j1, Bool.false_eq_true, if_false]
    have hw : wrap64 (((frameW a2).size : Int) - 16) = (((frameW a2).size - 16 : Nat) : Int) := by unfold wrap64; omega
    rw [hw, if_pos (by omega), if_pos (by omega)]
    simp only [Int.toNat_natCast]
    have hcut : cbc_Open.f a0 a1 ((sealW a0 a1 a2).extract 0 ((frameW a2).size - 16)) = some (⟨#[]⟩, 4) := by
      have hes : ((sealW a0 a1 a2).extract 0 ((frameW a2).size - 16)).size = (frameW a2).size - 16 := by rw [ByteArray.size_extract, hsz]; omega
      by_cases h16 : (frameW a2).size = 16
      · exact open_f_form _ _ _ hk hf (.inl (by rw [hes, h16]))
      · obtain ⟨n, hn⟩ : ∃ n, (frameW a2).size - 16 = 16 * n := ⟨((frameW a2).size - 16) / 16, by omega⟩
        rw [open_f _ _ _ hk hf (by omega) (by omega) (by omega), hn, open_short a0 a1 a2 hk hf (by omega) n (by omega) (by omega)]
    rw [hcut]
    simp only [Option.bind_some, if_true]
    by_cases hform : a3.size = 0 ∨ a3.size % 16 ≠ 0
    · rw [open_f_form _ _ _ hk hf hform]
      simp
      rfl
    · rw [open_f _ _ _ hk hf (by omega) (by omega) h3]
      simp only [Option.bind_some]
      by_cases hr : (openR a0 a1 a3).2 = 0
      · rw [if_pos hr]
        obtain ⟨c, hc⟩ : ∃ c, c = (openR a0 a1 a3).1 := ⟨_, rfl⟩
        have hpair : openR a0 a1 a3 = (c, 0) := by rw [hc, ← hr]
        obtain ⟨e1, e2⟩ := seal_open a0 a1 a3 c hk hf (by omega) hpair
        rw [hpair, seal_f _ _ _ hk hf e2, e1]
        simp
      · rw [if_neg hr]
        have hempty : (openR a0 a1 a3).1 = ⟨#[]⟩ := by
          unfold openR at hr ⊢
          split
          · rename_i hu; rw [if_pos hu] at hr; exact absurd rfl hr
          · rfl
        rw [hempty]
        rfl
  · rw [seal_f_arg _ _ _ hkf]
    simp only [Option.bind_some]
    rw [if_neg (by decide), if_pos (by rfl)]
    by_cases hk : a0.size = 32
    · have hf : a1.size ≠ 16 := fun e => hkf ⟨hk, e⟩
      rw [if_pos (by omega)]
      have : ((a1.size : Int) != 16) = true := by rw [bne_iff_ne]; omega
      rw [this]
    · rw [if_neg (by omega)]

end Go.Proofs.Ytfbcgpgpfpnpnaa.Pure
