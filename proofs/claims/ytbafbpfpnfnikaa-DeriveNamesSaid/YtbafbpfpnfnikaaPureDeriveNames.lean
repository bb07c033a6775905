/- The examples; the limits. Conditions: none (a closed statement). -/
import Derived.Test.YtbafbpfpnfnikaaPDeriveNamesx1
import Derived.Test.YtbafbpfpnfnikaaDerP
namespace Go.Proofs.Ytbafbpfpnfnikaa.Pure
open Go.RowKit Go.Proofs.Ytbafbpfpnfnikaa.PDeriveNames Go.Proofs.YtbafbpfpnfnikaaW.PrintWords Go.Proofs.YtbafbpfpnfnikaaW.PrintLast Go.Proofs.YtbafbpfpnfnikaaW.PrintMore

set_option linter.unusedVariables false
set_option linter.unusedSimpArgs false

open Given in
theorem key_ok (pw salt : ByteArray) (r : Int) (h1 : pw.size ≤ 64) (h2 : salt.size = 16) (h3 : 1 ≤ r) (h4 : r ≤ 64) : derive_Key.f pw salt r = some (stretchW pw salt r.toNat 1, (stretchW pw salt r.toNat 2).extract 0 8, 0) := by
  unfold derive_Key.f
  rw [stretch_f pw salt r 1 h1 h2 h3 h4 (by omega) (by omega), stretch_f pw salt r 2 h1 h2 h3 h4 (by omega) (by omega)]
  have hs : ((stretchW pw salt r.toNat (2 : Int).toNat).size : Int) = 32 := by rw [stretchW_size]; rfl
  simp only [Option.bind_some, if_true]
  rw [if_pos (by omega), if_pos (by omega)]
  rfl
open Given in
theorem key_no (pw salt : ByteArray) (r : Int) (h : ¬ (pw.size ≤ 64 ∧ salt.size = 16 ∧ 1 ≤ r ∧ r ≤ 64)) : derive_Key.f pw salt r = some (⟨#[]⟩, ⟨#[]⟩, 1) := by
  unfold derive_Key.f
  rw [stretch_no pw salt r 1 (fun hh => h ⟨hh.1, hh.2.1, hh.2.2.1, hh.2.2.2.1⟩)]
  rfl
theorem empty_list : (⟨#[]⟩ : ByteArray).toList = [] := by decide +kernel
theorem empty_both : ((⟨#[]⟩ : ByteArray) ++ (⟨#[]⟩ : ByteArray)) = ⟨#[]⟩ := by decide +kernel
theorem toList_self (a b : ByteArray) (h : a = b) : a.toList = b.toList := by rw [h]
open Given in
theorem awake : hamperlaw08_awake.f = some true := by
  obtain ⟨salt, hsalt⟩ : ∃ s, s = (⟨#[115, 97, 108, 116, 101, 100, 32, 98, 121, 32, 116, 104, 101, 115, 101, 32]⟩ : ByteArray) := ⟨_, rfl⟩
  obtain ⟨p, hp⟩ : ∃ s, s = (⟨#[112]⟩ : ByteArray) := ⟨_, rfl⟩
  have hs : salt.size = 16 := by rw [hsalt]; rfl
  have hps : p.size = 1 := by rw [hp]; rfl
  unfold hamperlaw08_awake.f
  rw [← hsalt, ← hp]
  have n1 : (⟨#[0, 0, 0, 1]⟩ : ByteArray) = numB 1 := by decide +kernel
  have n2 : (⟨#[0, 0, 0, 2]⟩ : ByteArray) = numB 2 := by decide +kernel
  have k1 := key_no p (salt.extract 1 salt.size) 1 (fun h => by have := h.2.1; rw [ByteArray.size_extract] at this; omega)
  have k2 := key_no p salt 0 (fun h => by omega)
  have k3 := key_ok p salt 1 (by omega) hs (by omega) (by omega)
  have m1 := hmac_f p (salt ++ numB 1) (by omega) (by rw [ByteArray.size_append, hs, numB_size]; decide)
  have m2 := hmac_f p (salt ++ numB 2) (by omega) (by rw [ByteArray.size_append, hs, numB_size]; decide)
  have o1 : stretchW p salt (1 : Int).toNat 1 = hmacW p (salt ++ numB 1) := stretch_one p salt 1
  have o2 : stretchW p salt (1 : Int).toNat 2 = hmacW p (salt ++ numB 2) := stretch_one p salt 2
  have z2 : ((hmacW p (salt ++ numB 2)).size : Int) = 32 := by rw [hmacW_size]; rfl
  rw [n1, n2, k1, k2, k3, m1, m2, o1, o2]
  simp only [Option.bind_some]
  simp only [if_true]
  rw [if_pos (by omega), if_pos (by omega), if_pos (by omega), if_pos (by omega)]
  simp

open Given in
theorem DeriveNames : hamperlaw08_DeriveNames.Pure := by
  refine ⟨8, ?_⟩
  unfold hamperlaw08_DeriveNames.f
  obtain ⟨salt, hsalt⟩ : ∃ s, s = strOfNums (List.replicate 16 0) := ⟨_, rfl⟩
  have hs : salt.size = 16 := by rw [hsalt]; decide +kernel
  have h65 : (strOfNums (List.replicate 65 0)).size = 65 := by decide +kernel
  have h64 : (strOfNums (List.replicate 64 0)).size = 64 := by decide +kernel
  rw [if_pos (by omega)]
  simp only [Option.bind_some]
  rw [← hsalt, if_pos (by omega), if_pos (by omega), if_pos (by omega)]
  obtain ⟨p65, hp65⟩ : ∃ s, s = strOfNums (List.replicate 65 0) := ⟨_, rfl⟩
  rw [← hp65] at h65 ⊢
  obtain ⟨p64, hp64⟩ : ∃ s, s = strOfNums (List.replicate 64 0) := ⟨_, rfl⟩
  rw [← hp64] at h64
  clear hsalt
  obtain ⟨s15, hs15⟩ : ∃ s, s = salt.extract 1 salt.size := ⟨_, rfl⟩
  obtain ⟨s17, hs17⟩ : ∃ s, s = salt ++ (⟨#[120]⟩ : ByteArray) := ⟨_, rfl⟩
  have z15 : s15.size = 15 := by rw [hs15, ByteArray.size_extract, hs]; rfl
  have z17 : s17.size = 17 := by rw [hs17, ByteArray.size_append, hs]; rfl
  rw [← hs15, ← hs17]
  clear hs15 hs17 hp65
  obtain ⟨em, hem⟩ : ∃ s, s = (⟨#[]⟩ : ByteArray) := ⟨_, rfl⟩
  have hez : em.size = 0 := by rw [hem]; rfl
  have r1 := stretch_no p65 salt 1 1 (by omega)
  have r2 := stretch_no em s15 1 1 (by omega)
  have r3 := stretch_no em s17 1 1 (by omega)
  have r4 := stretch_no em salt 0 1 (by omega)
  have r5 := stretch_no em salt 65 1 (by omega)
  have r6 := stretch_no em salt 1 0 (by omega)
  have r7 := stretch_no em salt 1 2147483648 (by omega)
  have r8 := stretch_f em salt 1 2147483647 (by omega) hs (by omega) (by omega) (by omega) (by omega)
  have q1 := key_no p65 salt 1 (by omega)
  have q2 := key_no em s15 1 (by omega)
  have q3 := key_no em s17 1 (by omega)
  have q4 := key_no em salt 0 (by omega)
  have q5 := key_no em salt 65 (by omega)
  have q6 := key_ok em salt 1 (by omega) hs (by omega) (by omega)
  have q8 := key_ok p64 salt 64 (by omega) hs (by omega) (by omega)
  rw [← hem]
  rw [← hem] at r1 r2 r3 r4 r5 r6 r7 q1 q2 q3 q4 q5
  have w0 : wrap64 1 = 1 := by unfold wrap64; omega
  have w1 : wrap64 2 = 2 := by unfold wrap64; omega
  have w2 : wrap64 3 = 3 := by unfold wrap64; omega
  have w3 : wrap64 4 = 4 := by unfold wrap64; omega
  have w4 : wrap64 5 = 5 := by unfold wrap64; omega
  have w5 : wrap64 6 = 6 := by unfold wrap64; omega
  have w6 : wrap64 7 = 7 := by unfold wrap64; omega
  simp only [List.length_cons, List.length_nil]
  simp [hamperlaw08_DeriveNames.l0, rd_T44, r1, r2, r3, r4, r5, r6, r7, r8, q1, q2, q3, q4, q5, q6, q8, w0, w1, w2, w3, w4, w5, w6, ← hp64, awake]
  change ((derive_Key.f (strOfNums (List.replicate 64 0)) salt 64).bind fun bt128 => (derive_Stretch.f (⟨#[]⟩ : ByteArray) salt 1 2147483647).bind fun bt131 => if bt128.2.2 = 0 then if bt131.2 = 0 then some true else some false else some false) = some true
  rw [← hp64, ← hem, q8, r8]
  rfl

end Go.Proofs.Ytbafbpfpnfnikaa.Pure
