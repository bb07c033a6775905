/- Sealing and opening are refused as the document says: keys and first blocks of another size, texts of no whole blocks, too much. Conditions: none (closed). -/
import Derived.Test.YtfbcgpgpfpnpnaaPCbcNamesx1
import Derived.Test.YtfbcgpgpfpnpnaaCbcP
namespace Go.Proofs.Ytfbcgpgpfpnpnaa.Pure
open Go.RowKit Go.Proofs.Ytfbcgpgpfpnpnaa.PCbcNames Go.Proofs.YtfbcgpgpfpnpnaaW.PrintWords Go.Proofs.YtfbcgpgpfpnpnaaW.PrintLast Go.Proofs.YtfbcgpgpfpnpnaaW.PrintMore

set_option linter.unusedVariables false
set_option linter.unusedSimpArgs false

open Given Cbc in
theorem CbcNames : hamperlaw10_CbcNames.Pure := by
  unfold hamperlaw10_CbcNames.Pure hamperlaw10_CbcNames.f
  have s1 : (strOfNums (List.replicate 32 0)).size = 32 := by rw [strOfNums_size, List.length_replicate]
  have s2 : (strOfNums (List.replicate 16 0)).size = 16 := by rw [strOfNums_size, List.length_replicate]
  have s3 : (strOfNums (List.replicate 1048577 0)).size = 1048577 := by rw [strOfNums_size, List.length_replicate]
  have e1 : ((strOfNums (List.replicate 32 0)).extract 1 32).size = 31 := by rw [ByteArray.size_extract, s1]; rfl
  have e2 : ((strOfNums (List.replicate 16 0)).extract 1 16).size = 15 := by rw [ByteArray.size_extract, s2]; rfl
  have e3 : (strOfNums (List.replicate 32 0) ++ (⟨#[120]⟩ : ByteArray)).size = 33 := by rw [ByteArray.size_append, s1]; rfl
  have e4 : (strOfNums (List.replicate 16 0) ++ (⟨#[120]⟩ : ByteArray)).size = 17 := by rw [ByteArray.size_append, s2]; rfl
  have z0 : (⟨#[]⟩ : ByteArray).size = 0 := rfl
  obtain ⟨big, hbig⟩ : ∃ b, b = strOfNums (List.replicate 1048577 0) := ⟨_, rfl⟩
  rw [← hbig] at s3 ⊢
  clear hbig
  generalize hk : strOfNums (List.replicate 32 0) = key at *
  generalize hf : strOfNums (List.replicate 16 0) = first at *
  rw [if_pos (by decide)]
  simp only [Option.bind_some]
  rw [if_pos (by decide)]
  simp only [hk, hf, s1, s2]
  rw [if_pos (by decide), seal_f_arg _ _ _ (by rw [e1]; omega)]
  simp only [Option.bind_some]
  rw [if_pos (by decide), seal_f_arg _ _ _ (by rw [e2]; omega)]
  simp only [Option.bind_some]
  rw [if_pos (by decide), open_f_arg _ _ _ (by rw [e3]; omega)]
  simp only [Option.bind_some]
  rw [if_pos (by decide), open_f_arg _ _ _ (by rw [e4]; omega)]
  simp only [Option.bind_some]
  rw [open_f_form _ _ _ s1 s2 (.inl z0)]
  simp only [Option.bind_some]
  rw [open_f_form _ _ _ s1 s2 (.inr (by rw [e2]; decide))]
  simp only [Option.bind_some]
  rw [if_pos (by decide)]
  have hl : cbc_Seal.f key first big = some (⟨#[]⟩, 40) := by
    unfold cbc_Seal.f
    rw [if_pos ⟨s1, s2⟩, if_neg (by rw [s3]; omega)]
  rw [hl]
  simp [law10_awake.f]

end Go.Proofs.Ytfbcgpgpfpnpnaa.Pure
