/- The key and the check have 32 and 8 bytes; what is stretched by one round is the sum itself. Conditions: none but the statement's own. -/
import Derived.Test.YtbafbpfpnfnikaaPDerivePartsx1
import Derived.Test.YtbafbpfpnfnikaaDerP
namespace Go.Proofs.Ytbafbpfpnfnikaa.Pure
open Go.RowKit Go.Proofs.Ytbafbpfpnfnikaa.PDeriveParts Go.Proofs.YtbafbpfpnfnikaaW.PrintWords Go.Proofs.YtbafbpfpnfnikaaW.PrintLast Go.Proofs.YtbafbpfpnfnikaaW.PrintMore

set_option linter.unusedVariables false
set_option linter.unusedSimpArgs false

open Given in
theorem key_ok (pw salt : ByteArray) (r : Int) (h1 : pw.size ≤ 64) (h2 : salt.size = 16) (h3 : 1 ≤ r) (h4 : r ≤ 64) : derive_Key.f pw salt r = some (stretchW pw salt r.toNat 1, (stretchW pw salt r.toNat 2).extract 0 8, 0) := by
  unfold derive_Key.f
  rw [stretch_f pw salt r 1 h1 h2 h3 h4 (by omega) (by omega), stretch_f pw salt r 2 h1 h2 h3 h4 (by omega) (by omega)]
  have hs : ((stretchW pw salt r.toNat (2 : Int).toNat).size : Int) = 32 := by rw [stretchW_size]; rfl
  simp only [Option.bind_some, if_true]
  rw [if_pos (by omega), if_pos (by omega)]
  rfl
open Given in
theorem key_no (pw salt : ByteArray) (r : Int) (h : ¬ (pw.size ≤ 64 ∧ salt.size = 16 ∧ 1 ≤ r ∧ r ≤ 64)) : derive_Key.f pw salt r = some (⟨#[]⟩, ⟨#[]⟩, 1) := by
  unfold derive_Key.f
  rw [stretch_no pw salt r 1 (fun hh => h ⟨hh.1, hh.2.1, hh.2.2.1, hh.2.2.2.1⟩)]
  rfl
theorem empty_list : (⟨#[]⟩ : ByteArray).toList = [] := by decide +kernel
theorem empty_both : ((⟨#[]⟩ : ByteArray) ++ (⟨#[]⟩ : ByteArray)) = ⟨#[]⟩ := by decide +kernel
theorem toList_self (a b : ByteArray) (h : a = b) : a.toList = b.toList := by rw [h]
open Given in
theorem awake : hamperlaw08_awake.f = some true := by
  obtain ⟨salt, hsalt⟩ : ∃ s, s = (⟨#[115, 97, 108, 116, 101, 100, 32, 98, 121, 32, 116, 104, 101, 115, 101, 32]⟩ : ByteArray) := ⟨_, rfl⟩
  obtain ⟨p, hp⟩ : ∃ s, s = (⟨#[112]⟩ : ByteArray) := ⟨_, rfl⟩
  have hs : salt.size = 16 := by rw [hsalt]; rfl
  have hps : p.size = 1 := by rw [hp]; rfl
  unfold hamperlaw08_awake.f
  rw [← hsalt, ← hp]
  have n1 : (⟨#[0, 0, 0, 1]⟩ : ByteArray) = numB 1 := by decide +kernel
  have n2 : (⟨#[0, 0, 0, 2]⟩ : ByteArray) = numB 2 := by decide +kernel
  have k1 := key_no p (salt.extract 1 salt.size) 1 (fun h => by have := h.2.1; rw [ByteArray.size_extract] at this; omega)
  have k2 := key_no p salt 0 (fun h => by omega)
  have k3 := key_ok p salt 1 (by omega) hs (by omega) (by omega)
  have m1 := hmac_f p (salt ++ numB 1) (by omega) (by rw [ByteArray.size_append, hs, numB_size]; decide)
  have m2 := hmac_f p (salt ++ numB 2) (by omega) (by rw [ByteArray.size_append, hs, numB_size]; decide)
  have o1 : stretchW p salt (1 : Int).toNat 1 = hmacW p (salt ++ numB 1) := stretch_one p salt 1
  have o2 : stretchW p salt (1 : Int).toNat 2 = hmacW p (salt ++ numB 2) := stretch_one p salt 2
  have z2 : ((hmacW p (salt ++ numB 2)).size : Int) = 32 := by rw [hmacW_size]; rfl
  rw [n1, n2, k1, k2, k3, m1, m2, o1, o2]
  simp only [Option.bind_some]
  simp only [if_true]
  rw [if_pos (by omega), if_pos (by omega), if_pos (by omega), if_pos (by omega)]
  simp

open Given in
theorem DeriveParts : hamperlaw08_DeriveParts.Pure := by
  intro a0 a1 a2 a3 h0 h1 h2 h3
  unfold hamperlaw08_DeriveParts.f
  by_cases b0 : (a0.size : Int) > 300
  · exact ⟨1, by rw [if_pos b0]; simp [hamperlaw08_DeriveParts.j0, awake]⟩
  by_cases b1 : (a1.size : Int) > 100
  · exact ⟨1, by rw [if_neg b0, if_pos b1]; simp [hamperlaw08_DeriveParts.j0, awake]⟩
  refine ⟨2, ?_⟩
  rw [if_neg b0, if_neg b1, awake]
  simp only [Option.bind_some, Bool.not_true, hamperlaw08_DeriveParts.j0, Bool.false_eq_true, if_false]
  have tail : hamperlaw08_DeriveParts.j1 1 a0 a1 a3 false = some true := by
    simp only [hamperlaw08_DeriveParts.j1, Bool.false_eq_true, if_false]
    by_cases hok : a0.size ≤ 64 ∧ a1.size = 16 ∧ 1 ≤ a3 ∧ a3 ≤ 2147483647
    · obtain ⟨c0, c1, c2, c3⟩ := hok
      rw [stretch_f a0 a1 1 a3 c0 c1 (by omega) (by omega) c2 c3]
      simp only [Option.bind_some, if_true]
      rw [num_of a3 c2 c3, if_pos (by rw [numB_size]; omega), hmac_f a0 (a1 ++ numB a3.toNat) (by omega) (by rw [ByteArray.size_append, numB_size]; omega)]
      have e : stretchW a0 a1 (1 : Int).toNat a3.toNat = hmacW a0 (a1 ++ numB a3.toNat) := stretch_one a0 a1 a3.toNat
      rw [e]
      simp
    · rw [stretch_no a0 a1 1 a3 (fun h => hok ⟨h.1, h.2.1, h.2.2.2.2.1, h.2.2.2.2.2⟩)]
      simp only [Option.bind_some]
      rw [if_neg (by omega), empty_list]
      rfl
  by_cases hk : a0.size ≤ 64 ∧ a1.size = 16 ∧ 1 ≤ a2 ∧ a2 ≤ 64
  · rw [key_ok a0 a1 a2 hk.1 hk.2.1 hk.2.2.1 hk.2.2.2]
    simp only [Option.bind_some, if_true]
    have z1 : ((stretchW a0 a1 a2.toNat 1).size : Int) = 32 := by rw [stretchW_size]; rfl
    have z2 : (((stretchW a0 a1 a2.toNat 2).extract 0 8).size : Int) = 8 := by rw [ByteArray.size_extract, stretchW_size]; rfl
    rw [if_pos z1, if_pos z2, tail]
  · rw [key_no a0 a1 a2 hk]
    simp only [Option.bind_some]
    rw [if_neg (by omega), if_pos (by decide), empty_both, empty_list]
    exact tail

end Go.Proofs.Ytbafbpfpnfnikaa.Pure
