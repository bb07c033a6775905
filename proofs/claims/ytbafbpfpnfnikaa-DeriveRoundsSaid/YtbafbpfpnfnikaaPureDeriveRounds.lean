/- What is stretched by some rounds is, by exclusive or with the last text, what is stretched by one more; the key and the check. Conditions: none but the statement's own. -/
import Derived.Test.YtbafbpfpnfnikaaPDeriveRoundsx1
import Derived.Test.YtbafbpfpnfnikaaDerX
namespace Go.Proofs.Ytbafbpfpnfnikaa.Pure
open Go.RowKit Go.Proofs.Ytbafbpfpnfnikaa.PDeriveRounds Go.Proofs.YtbafbpfpnfnikaaW.PrintWords Go.Proofs.YtbafbpfpnfnikaaW.PrintLast Go.Proofs.YtbafbpfpnfnikaaW.PrintMore

set_option linter.unusedVariables false
set_option linter.unusedSimpArgs false

open Given in
theorem key_ok (pw salt : ByteArray) (r : Int) (h1 : pw.size ≤ 64) (h2 : salt.size = 16) (h3 : 1 ≤ r) (h4 : r ≤ 64) : derive_Key.f pw salt r = some (stretchW pw salt r.toNat 1, (stretchW pw salt r.toNat 2).extract 0 8, 0) := by
  unfold derive_Key.f
  rw [stretch_f pw salt r 1 h1 h2 h3 h4 (by omega) (by omega), stretch_f pw salt r 2 h1 h2 h3 h4 (by omega) (by omega)]
  have hs : ((stretchW pw salt r.toNat (2 : Int).toNat).size : Int) = 32 := by rw [stretchW_size]; rfl
  simp only [Option.bind_some, if_true]
  rw [if_pos (by omega), if_pos (by omega)]
  rfl
open Given in
theorem key_no (pw salt : ByteArray) (r : Int) (h : ¬ (pw.size ≤ 64 ∧ salt.size = 16 ∧ 1 ≤ r ∧ r ≤ 64)) : derive_Key.f pw salt r = some (⟨#[]⟩, ⟨#[]⟩, 1) := by
  unfold derive_Key.f
  rw [stretch_no pw salt r 1 (fun hh => h ⟨hh.1, hh.2.1, hh.2.2.1, hh.2.2.2.1⟩)]
  rfl
theorem empty_list : (⟨#[]⟩ : ByteArray).toList = [] := by decide +kernel
theorem empty_both : ((⟨#[]⟩ : ByteArray) ++ (⟨#[]⟩ : ByteArray)) = ⟨#[]⟩ := by decide +kernel
theorem toList_self (a b : ByteArray) (h : a = b) : a.toList = b.toList := by rw [h]
open Given in
theorem awake : hamperlaw08_awake.f = some true := by
  obtain ⟨salt, hsalt⟩ : ∃ s, s = (⟨#[115, 97, 108, 116, 101, 100, 32, 98, 121, 32, 116, 104, 101, 115, 101, 32]⟩ : ByteArray) := ⟨_, rfl⟩
  obtain ⟨p, hp⟩ : ∃ s, s = (⟨#[112]⟩ : ByteArray) := ⟨_, rfl⟩
  have hs : salt.size = 16 := by rw [hsalt]; rfl
  have hps : p.size = 1 := by rw [hp]; rfl
  unfold hamperlaw08_awake.f
  rw [← hsalt, ← hp]
  have n1 : (⟨#[0, 0, 0, 1]⟩ : ByteArray) = numB 1 := by decide +kernel
  have n2 : (⟨#[0, 0, 0, 2]⟩ : ByteArray) = numB 2 := by decide +kernel
  have k1 := key_no p (salt.extract 1 salt.size) 1 (fun h => by have := h.2.1; rw [ByteArray.size_extract] at this; omega)
  have k2 := key_no p salt 0 (fun h => by omega)
  have k3 := key_ok p salt 1 (by omega) hs (by omega) (by omega)
  have m1 := hmac_f p (salt ++ numB 1) (by omega) (by rw [ByteArray.size_append, hs, numB_size]; decide)
  have m2 := hmac_f p (salt ++ numB 2) (by omega) (by rw [ByteArray.size_append, hs, numB_size]; decide)
  have o1 : stretchW p salt (1 : Int).toNat 1 = hmacW p (salt ++ numB 1) := stretch_one p salt 1
  have o2 : stretchW p salt (1 : Int).toNat 2 = hmacW p (salt ++ numB 2) := stretch_one p salt 2
  have z2 : ((hmacW p (salt ++ numB 2)).size : Int) = 32 := by rw [hmacW_size]; rfl
  rw [n1, n2, k1, k2, k3, m1, m2, o1, o2]
  simp only [Option.bind_some]
  simp only [if_true]
  rw [if_pos (by omega), if_pos (by omega), if_pos (by omega), if_pos (by omega)]
  simp

open Given in
theorem texts_loop (pw salt x9 x11 first : ByteArray) (n : Nat) (hn : n ≤ 64) (hp : pw.size ≤ 1000) (K : Nat) : ∀ d i : Nat, i + d = n →
    hamperlaw08_DeriveRounds.l0 (K + d) pw salt (n : Int) x9 x11 (uN pw first (i + 1)) (i : Int) = hamperlaw08_DeriveRounds.l0 K pw salt (n : Int) x9 x11 (uN pw first (n + 1)) (n : Int)
  | 0, i, h => by
    obtain rfl : i = n := by omega
    rfl
  | d + 1, i, h => by
    show hamperlaw08_DeriveRounds.l0 ((K + d) + 1) pw salt (n : Int) x9 x11 (uN pw first (i + 1)) (i : Int) = _
    have hw : wrap64 ((i : Int) + 1) = ((i + 1 : Nat) : Int) := by unfold wrap64; omega
    rw [hamperlaw08_DeriveRounds.l0, if_pos (by omega), hmac_f _ _ hp (by rw [uN_size]; decide)]
    simp only [Option.bind_some]
    rw [hw]
    exact texts_loop pw salt x9 x11 first n hn hp K d (i + 1) (by omega)
open Given in
theorem DeriveRounds : hamperlaw08_DeriveRounds.Pure := by
  intro a0 a1 a2 a3 h0 h1 h2 h3
  unfold hamperlaw08_DeriveRounds.f
  by_cases b0 : (a0.size : Int) > 300
  · exact ⟨1, by rw [if_pos b0]; simp [hamperlaw08_DeriveRounds.j0, awake]⟩
  by_cases b1 : (a1.size : Int) > 100
  · exact ⟨1, by rw [if_neg b0, if_pos b1]; simp [hamperlaw08_DeriveRounds.j0, awake]⟩
  refine ⟨1 + a2.toNat + 2, ?_⟩
  rw [if_neg b0, if_neg b1, awake]
  simp only [Option.bind_some, Bool.not_true, hamperlaw08_DeriveRounds.j0, hamperlaw08_DeriveRounds.j1, Bool.false_eq_true, if_false]
  by_cases ok1 : a0.size ≤ 64 ∧ a1.size = 16 ∧ 1 ≤ a2 ∧ a2 ≤ 64 ∧ 1 ≤ a3 ∧ a3 ≤ 2147483647
  · obtain ⟨c0, c1, c2, c3, c4, c5⟩ := ok1
    have hr : wrap64 (a2 + 1) = a2 + 1 := by unfold wrap64; omega
    rw [hr, stretch_f a0 a1 a2 a3 c0 c1 c2 c3 c4 c5]
    by_cases h64 : a2 = 64
    · rw [stretch_no a0 a1 (a2 + 1) a3 (by omega)]
      simp
      rfl
    · rw [stretch_f a0 a1 (a2 + 1) a3 c0 c1 (by omega) (by omega) c4 c5]
      obtain ⟨n, hn⟩ : ∃ n : Nat, a2 = (n : Int) := ⟨a2.toNat, by omega⟩
      subst hn
      have en : ((n : Int) + 1).toNat = n + 1 := by omega
      simp only [Option.bind_some, if_true, bne_self_eq_false, Bool.false_eq_true, if_false, Int.toNat_natCast, en]
      rw [num_of a3 c4 c5, if_pos (by rw [numB_size]; omega), hmac_f a0 (a1 ++ numB a3.toNat) (by omega) (by rw [ByteArray.size_append, numB_size]; omega)]
      simp only [Option.bind_some]
      have hl := texts_loop a0 a1 (stretchW a0 a1 n a3.toNat) (stretchW a0 a1 (n + 1) a3.toNat) (a1 ++ numB a3.toNat) n (by omega) (by omega) 1 n 0 (by omega)
      have e1 : uN a0 (a1 ++ numB a3.toNat) (0 + 1) = hmacW a0 (a1 ++ numB a3.toNat) := rfl
      rw [e1] at hl
      rw [show ((0 : Nat) : Int) = 0 from rfl] at hl
      rw [hl, hamperlaw08_DeriveRounds.l0, if_neg (by omega), key_ok a0 a1 n c0 c1 (by omega) (by omega), stretch_f a0 a1 n 1 c0 c1 (by omega) (by omega) (by omega) (by omega), stretch_f a0 a1 n 2 c0 c1 (by omega) (by omega) (by omega) (by omega)]
      simp only [Option.bind_some, Int.toNat_natCast]
      have z1 : ((stretchW a0 a1 n a3.toNat).size : Int) = 32 := by rw [stretchW_size]; rfl
      have z2 : ((stretchW a0 a1 n (2 : Int).toNat).size : Int) = 32 := by rw [stretchW_size]; rfl
      rw [if_pos z1]
      unfold law08_xor.f
      rw [if_pos ⟨stretchW_size _ _ _ _, uN_size _ _ _⟩]
      simp only [Option.bind_some]
      rw [if_pos (by rw [stretch_succ])]
      simp only [if_true]
      rw [if_pos (show (stretchW a0 a1 n 1).toList = (stretchW a0 a1 n (Int.toNat 1)).toList from rfl), if_pos z2, if_pos (by omega), if_pos (by omega)]
      exact congrArg some (beq_self_eq_true _)
  · rw [stretch_no a0 a1 a2 a3 ok1]
    by_cases ok2 : a0.size ≤ 64 ∧ a1.size = 16 ∧ 1 ≤ wrap64 (a2 + 1) ∧ wrap64 (a2 + 1) ≤ 64 ∧ 1 ≤ a3 ∧ a3 ≤ 2147483647
    · obtain ⟨c0, c1, c2, c3, c4, c5⟩ := ok2
      rw [stretch_f a0 a1 _ a3 c0 c1 c2 c3 c4 c5]
      simp
      rfl
    · rw [stretch_no a0 a1 _ a3 ok2]
      simp
      rfl

end Go.Proofs.Ytbafbpfpnfnikaa.Pure
