/- AES in plain Lean: a whole block. No program in sight. Conditions: keys of 32 bytes, blocks of 16. -/
import Derived.Test.YtdegeodegjmddaaZAesP
namespace Go.Proofs.Ytdegeodegjmddaa.Aes
open Go Go.RowKit Go.Proofs.Ytdegeodegjmddaa.Row Go.Proofs.Ytdegeodegjmddaa.Row.At
set_option linter.unusedVariables false
set_option linter.unusedSimpArgs false
set_option maxRecDepth 100000

def sbox : List UInt8 := (standCells.drop 240).take 256
def inv : List UInt8 := (standCells.drop 496).take 256
theorem cipher_drop (kb : List UInt8) (h : kb.length = 32) (n : Nat) (hn : 240 ≤ n) : (cipher kb).drop n = standCells.drop n := by
  have hl : ((ex kb 60).take 240).length = 240 := by rw [List.length_take, ex_length kb h 60 (Nat.le_refl _)]; rfl
  obtain ⟨m, rfl⟩ : ∃ m, n = 240 + m := ⟨n - 240, by omega⟩
  rw [cipher, keyCells]
  show List.drop (240 + m) (List.take 240 (ex kb 60) ++ List.drop 240 standCells) = _
  conv => lhs; rw [show 240 + m = ((ex kb 60).take 240).length + m by rw [hl]]
  rw [List.drop_length_add_append, List.drop_drop]
theorem toT_cipher (kb : List UInt8) (h : kb.length = 32) : toT (cipher kb) = sbox := by rw [toT, cipher_drop kb h 240 (by omega)]; rfl
theorem fromT_cipher (kb : List UInt8) (h : kb.length = 32) : fromT (cipher kb) = inv := by rw [fromT, cipher_drop kb h 496 (by omega)]; rfl
theorem inv_sbox_all : ∀ n : Nat, n < 256 → gb inv (gb sbox n).toNat = UInt8.ofNat n ∧ gb sbox (gb inv n).toNat = UInt8.ofNat n := by decide +kernel
theorem inv_sbox (b : UInt8) : gb inv (gb sbox b.toNat).toNat = b := by rw [(inv_sbox_all b.toNat b.toNat_lt).1, UInt8.ofNat_toNat]
theorem sbox_inv (b : UInt8) : gb sbox (gb inv b.toNat).toNat = b := by rw [(inv_sbox_all b.toNat b.toNat_lt).2, UInt8.ofNat_toNat]

theorem swapL_length (s t : List UInt8) : (swapL s t).length = 16 := mk16_length _
theorem rowL_length (s : List UInt8) (n : Nat) : (rowL s n).length = 16 := mk16_length _
theorem withL_length (s t : List UInt8) : (withL s t).length = 16 := mk16_length _
theorem col_ed (s : List UInt8) (h : s.length = 16) (m : Nat) : decCol (encCol s m) m = s := by
  unfold decCol encCol
  split
  · rfl
  · exact col_inv encB decB mm_ed s h
theorem col_de (s : List UInt8) (h : s.length = 16) (m : Nat) : encCol (decCol s m) m = s := by
  unfold decCol encCol
  split
  · rfl
  · exact col_inv decB encB mm_de s h
theorem mix_ed (kb s : List UInt8) (hk : kb.length = 32) (h : s.length = 16) (m : Nat) : decMix (cipher kb) (encMix (cipher kb) s m) m = s := by
  unfold decMix encMix
  split
  · rfl
  · rw [rows_13 _ (swapL_length _ _), toT_cipher kb hk, fromT_cipher kb hk, swap_swap _ _ _ h inv_sbox]
theorem mix_de (kb s : List UInt8) (hk : kb.length = 32) (h : s.length = 16) (m : Nat) : encMix (cipher kb) (decMix (cipher kb) s m) m = s := by
  unfold decMix encMix
  split
  · rfl
  · rw [toT_cipher kb hk, fromT_cipher kb hk, swap_swap _ _ _ (rowL_length _ _) sbox_inv, rows_31 _ h]
theorem round_ed (kb s : List UInt8) (hk : kb.length = 32) (h : s.length = 16) (n : Nat) (hn : n ≤ 14) : decRound (cipher kb) (encRound (cipher kb) s (14 - n)) n = s := by
  rw [decRound, encRound, with_with _ _ (encCol_length _ _ (encMix_length _ _ _ h)), col_ed _ (encMix_length _ _ _ h), mix_ed kb s hk h]
theorem round_de (kb s : List UInt8) (hk : kb.length = 32) (h : s.length = 16) (n : Nat) (hn : n ≤ 14) : encRound (cipher kb) (decRound (cipher kb) s n) (14 - n) = s := by
  rw [decRound, encRound, mix_de kb _ hk (decCol_length _ _ (withL_length _ _)), col_de _ (withL_length _ _), with_with _ _ h]
theorem steps_ed (kb s : List UInt8) (hk : kb.length = 32) (h : s.length = 16) : ∀ n, n ≤ 15 → steps (decRound (cipher kb)) (encS kb s) n = steps (encRound (cipher kb)) s (15 - n)
  | 0, _ => rfl
  | n + 1, hn => by
    rw [steps, steps_ed kb s hk h n (by omega), show 15 - n = (14 - n) + 1 by omega, steps, round_ed kb _ hk (steps_length _ (encRound_length _) s h _) n (by omega), show 15 - (n + 1) = 14 - n by omega]
theorem steps_de (kb s : List UInt8) (hk : kb.length = 32) (h : s.length = 16) : ∀ n, n ≤ 15 → steps (encRound (cipher kb)) (decS kb s) n = steps (decRound (cipher kb)) s (15 - n)
  | 0, _ => rfl
  | n + 1, hn => by
    have := round_de kb (steps (decRound (cipher kb)) s (14 - n)) hk (steps_length _ (decRound_length _) s h _) (14 - n) (by omega)
    rw [show 14 - (14 - n) = n by omega] at this
    rw [steps, steps_de kb s hk h n (by omega), show 15 - n = (14 - n) + 1 by omega, steps, this, show 15 - (n + 1) = 14 - n by omega]
/-- Deciphering undoes enciphering. -/
theorem dec_enc (kb s : List UInt8) (hk : kb.length = 32) (h : s.length = 16) : decS kb (encS kb s) = s := steps_ed kb s hk h 15 (Nat.le_refl _)
/-- Enciphering undoes deciphering. -/
theorem enc_dec (kb s : List UInt8) (hk : kb.length = 32) (h : s.length = 16) : encS kb (decS kb s) = s := steps_de kb s hk h 15 (Nat.le_refl _)
theorem encS_length (kb s : List UInt8) : (encS kb s).length = 16 := encRound_length _ _ _
theorem decS_length (kb s : List UInt8) : (decS kb s).length = 16 := by
  show (decRound (cipher kb) (steps (decRound (cipher kb)) s 14) 14).length = 16
  exact decRound_length _ _ _
/-- The example of the document. -/
theorem example_enc : encS ((List.range 32).map UInt8.ofNat) ((List.range 16).map (fun i => UInt8.ofNat (17 * i))) = [0x8e, 0xa2, 0xb7, 0xca, 0x51, 0x67, 0x45, 0xbf, 0xea, 0xfc, 0x49, 0x90, 0x4b, 0x49, 0x60, 0x89] := by decide +kernel
end Go.Proofs.Ytdegeodegjmddaa.Aes
