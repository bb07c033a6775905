/- A password of fewer than 64 bytes, and it with a byte 0 behind, have one key and one check. Conditions: none but the statement's own. -/
import Derived.Test.YtbafbpfpnfnikaaPDerivePaddedx1
import Derived.Test.YtbafbpfpnfnikaaDerP
namespace Go.Proofs.Ytbafbpfpnfnikaa.Pure
open Go.RowKit Go.Proofs.Ytbafbpfpnfnikaa.PDerivePadded Go.Proofs.YtbafbpfpnfnikaaW.PrintWords Go.Proofs.YtbafbpfpnfnikaaW.PrintLast Go.Proofs.YtbafbpfpnfnikaaW.PrintMore

set_option linter.unusedVariables false
set_option linter.unusedSimpArgs false

open Given in
theorem key_ok (pw salt : ByteArray) (r : Int) (h1 : pw.size ≤ 64) (h2 : salt.size = 16) (h3 : 1 ≤ r) (h4 : r ≤ 64) : derive_Key.f pw salt r = some (stretchW pw salt r.toNat 1, (stretchW pw salt r.toNat 2).extract 0 8, 0) := by
  unfold derive_Key.f
  rw [stretch_f pw salt r 1 h1 h2 h3 h4 (by omega) (by omega), stretch_f pw salt r 2 h1 h2 h3 h4 (by omega) (by omega)]
  have hs : ((stretchW pw salt r.toNat (2 : Int).toNat).size : Int) = 32 := by rw [stretchW_size]; rfl
  simp only [Option.bind_some, if_true]
  rw [if_pos (by omega), if_pos (by omega)]
  rfl
open Given in
theorem key_no (pw salt : ByteArray) (r : Int) (h : ¬ (pw.size ≤ 64 ∧ salt.size = 16 ∧ 1 ≤ r ∧ r ≤ 64)) : derive_Key.f pw salt r = some (⟨#[]⟩, ⟨#[]⟩, 1) := by
  unfold derive_Key.f
  rw [stretch_no pw salt r 1 (fun hh => h ⟨hh.1, hh.2.1, hh.2.2.1, hh.2.2.2.1⟩)]
  rfl
theorem empty_list : (⟨#[]⟩ : ByteArray).toList = [] := by decide +kernel
theorem empty_both : ((⟨#[]⟩ : ByteArray) ++ (⟨#[]⟩ : ByteArray)) = ⟨#[]⟩ := by decide +kernel
theorem toList_self (a b : ByteArray) (h : a = b) : a.toList = b.toList := by rw [h]
open Given in
theorem awake : hamperlaw08_awake.f = some true := by
  obtain ⟨salt, hsalt⟩ : ∃ s, s = (⟨#[115, 97, 108, 116, 101, 100, 32, 98, 121, 32, 116, 104, 101, 115, 101, 32]⟩ : ByteArray) := ⟨_, rfl⟩
  obtain ⟨p, hp⟩ : ∃ s, s = (⟨#[112]⟩ : ByteArray) := ⟨_, rfl⟩
  have hs : salt.size = 16 := by rw [hsalt]; rfl
  have hps : p.size = 1 := by rw [hp]; rfl
  unfold hamperlaw08_awake.f
  rw [← hsalt, ← hp]
  have n1 : (⟨#[0, 0, 0, 1]⟩ : ByteArray) = numB 1 := by decide +kernel
  have n2 : (⟨#[0, 0, 0, 2]⟩ : ByteArray) = numB 2 := by decide +kernel
  have k1 := key_no p (salt.extract 1 salt.size) 1 (fun h => by have := h.2.1; rw [ByteArray.size_extract] at this; omega)
  have k2 := key_no p salt 0 (fun h => by omega)
  have k3 := key_ok p salt 1 (by omega) hs (by omega) (by omega)
  have m1 := hmac_f p (salt ++ numB 1) (by omega) (by rw [ByteArray.size_append, hs, numB_size]; decide)
  have m2 := hmac_f p (salt ++ numB 2) (by omega) (by rw [ByteArray.size_append, hs, numB_size]; decide)
  have o1 : stretchW p salt (1 : Int).toNat 1 = hmacW p (salt ++ numB 1) := stretch_one p salt 1
  have o2 : stretchW p salt (1 : Int).toNat 2 = hmacW p (salt ++ numB 2) := stretch_one p salt 2
  have z2 : ((hmacW p (salt ++ numB 2)).size : Int) = 32 := by rw [hmacW_size]; rfl
  rw [n1, n2, k1, k2, k3, m1, m2, o1, o2]
  simp only [Option.bind_some]
  simp only [if_true]
  rw [if_pos (by omega), if_pos (by omega), if_pos (by omega), if_pos (by omega)]
  simp

open Given in
theorem DerivePadded : hamperlaw08_DerivePadded.Pure := by
  intro a0 a1 a2 h0 h1 h2
  unfold hamperlaw08_DerivePadded.f
  by_cases b0 : (a0.size : Int) > 300
  · exact ⟨1, by rw [if_pos b0]; simp [hamperlaw08_DerivePadded.j0, awake]⟩
  by_cases b1 : (a1.size : Int) > 100
  · exact ⟨1, by rw [if_neg b0, if_pos b1]; simp [hamperlaw08_DerivePadded.j0, awake]⟩
  refine ⟨1, ?_⟩
  have hsz : (a0 ++ (⟨#[0]⟩ : ByteArray)).size = a0.size + 1 := by rw [ByteArray.size_append]; rfl
  rw [if_neg b0, if_neg b1, awake]
  simp only [Option.bind_some, Bool.not_true, hamperlaw08_DerivePadded.j0, Bool.false_eq_true, if_false]
  by_cases hl : (a0.size : Int) ≥ 64
  · have k2 := key_no (a0 ++ ⟨#[0]⟩) a1 a2 (fun h => by have := h.1; omega)
    by_cases hk : a0.size ≤ 64 ∧ a1.size = 16 ∧ 1 ≤ a2 ∧ a2 ≤ 64
    · rw [key_ok a0 a1 a2 hk.1 hk.2.1 hk.2.2.1 hk.2.2.2, k2]
      simp only [Option.bind_some, if_true]
      rw [if_pos (by omega), if_pos hl, if_pos empty_list, empty_list]
      rfl
    · rw [key_no a0 a1 a2 hk, k2]
      simp only [Option.bind_some, if_true]
      rw [if_pos (by omega), if_pos hl, if_pos empty_list, empty_list]
      rfl
  · have hlt : a0.size < 64 := by omega
    by_cases hk : a0.size ≤ 64 ∧ a1.size = 16 ∧ 1 ≤ a2 ∧ a2 ≤ 64
    · rw [key_ok a0 a1 a2 hk.1 hk.2.1 hk.2.2.1 hk.2.2.2, key_ok (a0 ++ ⟨#[0]⟩) a1 a2 (by omega) hk.2.1 hk.2.2.1 hk.2.2.2, stretch_more _ _ _ _ hlt, stretch_more _ _ _ _ hlt]
      simp only [Option.bind_some, if_true]
      rw [if_pos (by omega), if_neg hl]
      rfl
    · rw [key_no a0 a1 a2 hk, key_no (a0 ++ ⟨#[0]⟩) a1 a2 (fun h => hk ⟨by omega, h.2⟩)]
      simp only [Option.bind_some, if_true]
      rw [if_pos (by omega), if_neg hl]
      rfl

end Go.Proofs.Ytbafbpfpnfnikaa.Pure
