/- The key and the check of any password, and what it is stretched to by any block, are the document's, or it is refused. Conditions: none but the statement's own. -/
import Derived.Test.YtbafbpfpnfnikaaPDeriveTellsx1
namespace Go.Proofs.Ytbafbpfpnfnikaa.Pure
open Go.RowKit Go.Proofs.Ytbafbpfpnfnikaa.PDeriveTells Go.Proofs.YtbafbpfpnfnikaaW.PrintWords Go.Proofs.YtbafbpfpnfnikaaW.PrintLast Go.Proofs.YtbafbpfpnfnikaaW.PrintMore

set_option linter.unusedVariables false
set_option linter.unusedSimpArgs false

open Given in
theorem key_ok (pw salt : ByteArray) (r : Int) (h1 : pw.size ≤ 64) (h2 : salt.size = 16) (h3 : 1 ≤ r) (h4 : r ≤ 64) : derive_Key.f pw salt r = some (stretchW pw salt r.toNat 1, (stretchW pw salt r.toNat 2).extract 0 8, 0) := by
  unfold derive_Key.f
  rw [stretch_f pw salt r 1 h1 h2 h3 h4 (by omega) (by omega), stretch_f pw salt r 2 h1 h2 h3 h4 (by omega) (by omega)]
  have hs : ((stretchW pw salt r.toNat (2 : Int).toNat).size : Int) = 32 := by rw [stretchW_size]; rfl
  simp only [Option.bind_some, if_true]
  rw [if_pos (by omega), if_pos (by omega)]
  rfl
open Given in
theorem key_no (pw salt : ByteArray) (r : Int) (h : ¬ (pw.size ≤ 64 ∧ salt.size = 16 ∧ 1 ≤ r ∧ r ≤ 64)) : derive_Key.f pw salt r = some (⟨#[]⟩, ⟨#[]⟩, 1) := by
  unfold derive_Key.f
  rw [stretch_no pw salt r 1 (fun hh => h ⟨hh.1, hh.2.1, hh.2.2.1, hh.2.2.2.1⟩)]
  rfl
theorem empty_list : (⟨#[]⟩ : ByteArray).toList = [] := by decide +kernel
theorem empty_both : ((⟨#[]⟩ : ByteArray) ++ (⟨#[]⟩ : ByteArray)) = ⟨#[]⟩ := by decide +kernel
theorem toList_self (a b : ByteArray) (h : a = b) : a.toList = b.toList := by rw [h]
open Given in
theorem awake : hamperlaw08_awake.f = some true := by
  obtain ⟨salt, hsalt⟩ : ∃ s, s = (⟨#[115, 97, 108, 116, 101, 100, 32, 98, 121, 32, 116, 104, 101, 115, 101, 32]⟩ : ByteArray) := ⟨_, rfl⟩
  obtain ⟨p, hp⟩ : ∃ s, s = (⟨#[112]⟩ : ByteArray) := ⟨_, rfl⟩
  have hs : salt.size = 16 := by rw [hsalt]; rfl
  have hps : p.size = 1 := by rw [hp]; rfl
  unfold hamperlaw08_awake.f
  rw [← hsalt, ← hp]
  have n1 : (⟨#[0, 0, 0, 1]⟩ : ByteArray) = numB 1 := by decide +kernel
  have n2 : (⟨#[0, 0, 0, 2]⟩ : ByteArray) = numB 2 := by decide +kernel
  have k1 := key_no p (salt.extract 1 salt.size) 1 (fun h => by have := h.2.1; rw [ByteArray.size_extract] at this; omega)
  have k2 := key_no p salt 0 (fun h => by omega)
  have k3 := key_ok p salt 1 (by omega) hs (by omega) (by omega)
  have m1 := hmac_f p (salt ++ numB 1) (by omega) (by rw [ByteArray.size_append, hs, numB_size]; decide)
  have m2 := hmac_f p (salt ++ numB 2) (by omega) (by rw [ByteArray.size_append, hs, numB_size]; decide)
  have o1 : stretchW p salt (1 : Int).toNat 1 = hmacW p (salt ++ numB 1) := stretch_one p salt 1
  have o2 : stretchW p salt (1 : Int).toNat 2 = hmacW p (salt ++ numB 2) := stretch_one p salt 2
  have z2 : ((hmacW p (salt ++ numB 2)).size : Int) = 32 := by rw [hmacW_size]; rfl
  rw [n1, n2, k1, k2, k3, m1, m2, o1, o2]
  simp only [Option.bind_some]
  simp only [if_true]
  rw [if_pos (by omega), if_pos (by omega), if_pos (by omega), if_pos (by omega)]
  simp

open Given in
theorem refKey_ok (pw salt : ByteArray) (r : Int) (h1 : pw.size ≤ 64) (h2 : salt.size = 16) (h3 : 1 ≤ r) (h4 : r ≤ 64) : hamperref08_Key.f pw salt r = some (stretchW pw salt r.toNat 1, (stretchW pw salt r.toNat 2).extract 0 8, 0) := by
  have e1 : ref08_Stretch.f pw salt r 1 = some (stretchW pw salt r.toNat (1 : Int).toNat, 0) := by unfold ref08_Stretch.f; rw [if_pos ⟨h1, h2, h3, h4, by omega, by omega⟩]
  have e2 : ref08_Stretch.f pw salt r 2 = some (stretchW pw salt r.toNat (2 : Int).toNat, 0) := by unfold ref08_Stretch.f; rw [if_pos ⟨h1, h2, h3, h4, by omega, by omega⟩]
  unfold hamperref08_Key.f
  rw [e1, e2]
  have hs : ((stretchW pw salt r.toNat (2 : Int).toNat).size : Int) = 32 := by rw [stretchW_size]; rfl
  simp only [Option.bind_some, if_true]
  rw [if_pos (by omega), if_pos (by omega)]
  rfl
open Given in
theorem refKey_no (pw salt : ByteArray) (r : Int) (h : ¬ (pw.size ≤ 64 ∧ salt.size = 16 ∧ 1 ≤ r ∧ r ≤ 64)) : hamperref08_Key.f pw salt r = some (⟨#[]⟩, ⟨#[]⟩, 1) := by
  have e1 : ref08_Stretch.f pw salt r 1 = some (⟨#[]⟩, 1) := by unfold ref08_Stretch.f; rw [if_neg (fun hh => h ⟨hh.1, hh.2.1, hh.2.2.1, hh.2.2.2.1⟩)]
  unfold hamperref08_Key.f
  rw [e1]
  rfl
open Given in
theorem DeriveTells : hamperlaw08_DeriveTells.Pure := by
  intro a0 a1 a2 a3 h0 h1 h2 h3
  unfold hamperlaw08_DeriveTells.f
  refine ⟨1, ?_⟩
  by_cases b0 : (a0.size : Int) > 300
  · rw [if_pos b0]; simp [hamperlaw08_DeriveTells.j0, awake]
  by_cases b1 : (a1.size : Int) > 100
  · rw [if_neg b0, decide_eq_true b1]; simp [hamperlaw08_DeriveTells.j0, awake]
  rw [if_neg b0, decide_eq_false b1, hamperlaw08_DeriveTells.j0, if_neg Bool.false_ne_true]
  have hk : ∃ x, derive_Key.f a0 a1 a2 = some x ∧ hamperref08_Key.f a0 a1 a2 = some x := by
    by_cases hh : a0.size ≤ 64 ∧ a1.size = 16 ∧ 1 ≤ a2 ∧ a2 ≤ 64
    · exact ⟨_, key_ok a0 a1 a2 hh.1 hh.2.1 hh.2.2.1 hh.2.2.2, refKey_ok a0 a1 a2 hh.1 hh.2.1 hh.2.2.1 hh.2.2.2⟩
    · exact ⟨_, key_no a0 a1 a2 hh, refKey_no a0 a1 a2 hh⟩
  have hs : ∃ x, derive_Stretch.f a0 a1 a2 a3 = some x ∧ ref08_Stretch.f a0 a1 a2 a3 = some x := by
    unfold derive_Stretch.f ref08_Stretch.f
    split
    · exact ⟨_, rfl, rfl⟩
    · exact ⟨_, rfl, rfl⟩
  obtain ⟨x, e1, e2⟩ := hk
  obtain ⟨y, e3, e4⟩ := hs
  rw [e1, e2, e3, e4]
  simp [awake]

end Go.Proofs.Ytbafbpfpnfnikaa.Pure
