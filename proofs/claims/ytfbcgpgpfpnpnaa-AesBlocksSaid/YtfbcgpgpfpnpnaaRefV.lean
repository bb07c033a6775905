/- The document's key words are the program's: plain law. Conditions: keys of 32 bytes. -/
import Derived.Test.YtfbcgpgpfpnpnaaRefT
namespace Go.Proofs.Ytfbcgpgpfpnpnaa.Aes
open Go Go.RowKit Go.Proofs.Ytfbcgpgpfpnpnaa.Row Go.Proofs.Ytfbcgpgpfpnpnaa.Row.At
set_option maxRecDepth 100000
set_option linter.unusedVariables false
set_option linter.unusedSimpArgs false
theorem gb_take (l : List UInt8) (i j : Nat) (h : j < i) : gb (l.take i) j = gb l j := by
  simp only [gb, List.getD_eq_getElem?_getD, List.getElem?_take, h, if_true]
theorem gb_dropT (l : List UInt8) (q j : Nat) : gb (l.drop q) j = gb l (q + j) := by
  simp only [gb, List.getD_eq_getElem?_getD, List.getElem?_drop]
theorem take4 (W : List UInt8) (p : Nat) (h : p + 4 ≤ W.length) : (W.drop p).take 4 = [gb W p, gb W (p + 1), gb W (p + 2), gb W (p + 3)] := by
  refine ext8 (by rw [List.length_take, List.length_drop]; simp; omega) fun j hj => ?_
  have hj4 : j < 4 := by rw [List.length_take] at hj; omega
  rw [gb_take _ _ _ hj4, gb_dropT]
  rcases j with _ | _ | _ | _ | j
  · rfl
  · rfl
  · rfl
  · rfl
  · omega
theorem fill4 (a b c d : UInt8) (f : Nat → UInt8) : fill [a, b, c, d] 0 f 4 = [f 0, f 1, f 2, f 3] := rfl
theorem subF_sbox (w : List UInt8) (k : Nat) : subF w k = gb sbox (gb w k).toNat := by
  have h := (gb w k).toNat_lt
  rw [subF, sbox, gb_take _ _ _ (by omega), gb_dropT]
theorem fill_take (W : List UInt8) (b : Nat) (f : Nat → UInt8) (h : b + 4 ≤ W.length) : (fill W b f 4).take (b + 4) = W.take b ++ (List.range 4).map f := by
  refine ext8 (by rw [List.length_take, fill_length, List.length_append, List.length_take]; simp; omega) fun j hj => ?_
  have hj4 : j < b + 4 := by rw [List.length_take] at hj; omega
  rw [gb_take _ _ _ hj4]
  by_cases hb : j < b
  · rw [fill_out W b f j 4 (.inl hb)]
    have : (W.take b).length = b := by rw [List.length_take]; omega
    simp only [gb, List.getD_eq_getElem?_getD]
    rw [List.getElem?_append_left (by omega), List.getElem?_take, if_pos hb]
  · rw [fill_in W b f j 4 (by omega) hj4 (by omega)]
    have hl : (W.take b).length = b := by rw [List.length_take]; omega
    simp only [gb, List.getD_eq_getElem?_getD]
    rw [List.getElem?_append_right (by omega), hl]
    have : j - b < 4 := by omega
    simp [this]
theorem ex_take8 (kb : List UInt8) (hk : kb.length = 32) : ∀ i, i ≤ 8 → (ex kb i).take (4 * i) = kb.take (4 * i)
  | 0, _ => by simp
  | i + 1, h => by
    have ih := ex_take8 kb hk i (by omega)
    have hl := ex_length kb hk i (by omega)
    rw [ex, if_pos (by omega)]
    have e : i * 4 = 4 * i := by omega
    rw [e]
    have hm : ((kb.drop (4 * i)).take 4).length = 4 := by rw [List.length_take, List.length_drop, hk]; omega
    have ht : ((ex kb i).take (4 * i)).length = 4 * i := by rw [List.length_take, hl]; omega
    rw [spl, show 4 * (i + 1) = 4 * i + 4 by omega]
    rw [List.take_append, List.take_of_length_le (by rw [List.length_append, ht, hm]; omega)]
    rw [List.length_append, ht, hm, Nat.sub_self, List.take_zero, List.append_nil, ih, List.take_add]
theorem ex_eight (kb : List UInt8) (hk : kb.length = 32) : (ex kb 8).take (4 * 8) = kb := by
  rw [ex_take8 kb hk 8 (Nat.le_refl _), List.take_of_length_le (by omega)]
theorem ex_next (kb : List UInt8) (hk : kb.length = 32) (n : Nat) (h8 : 8 ≤ n) (hn : n < 60) : (ex kb (n + 1)).take (4 * (n + 1)) = (ex kb n).take (4 * n) ++ (List.range 4).map (nextF (ex kb n) n) := by
  have hl := ex_length kb hk n (by omega)
  rw [ex, if_neg (by omega), show n * 4 = 4 * n by omega, show 4 * (n + 1) = 4 * n + 4 by omega]
  exact fill_take _ _ _ (by omega)
/-- the word ahead, by its four bytes -/
theorem wordA_four (W : List UInt8) (n p : Nat) (hp : p + 4 = 4 * n) (hl : 4 * n ≤ W.length) : wordA W n = [gb W p, gb W (p + 1), gb W (p + 2), gb W (p + 3)] := by
  have e : (n - 1) * 4 = p := by omega
  rw [wordA, e]
  exact take4 W p (by omega)
theorem wordD_0 (W : List UInt8) (n p : Nat) (hp : p + 4 = 4 * n) (hl : 4 * n ≤ W.length) (h : n % 8 = 0) :
    wordD W n = [gb sbox (gb W (p + 1)).toNat ^^^ pow ((n - 1) / 8), gb sbox (gb W (p + 2)).toNat, gb sbox (gb W (p + 3)).toNat, gb sbox (gb W p).toNat] := by
  have hB : wordB W n = [gb W (p + 1), gb W (p + 2), gb W (p + 3), gb W p] := by
    rw [wordB, if_pos h, wordA_four W n p hp hl]
    rfl
  have hC : wordC W n = [gb sbox (gb W (p + 1)).toNat, gb sbox (gb W (p + 2)).toNat, gb sbox (gb W (p + 3)).toNat, gb sbox (gb W p).toNat] := by
    rw [wordC, if_pos (by omega), hB, fill4, subF_sbox, subF_sbox, subF_sbox, subF_sbox]
    rfl
  rw [wordD, if_pos h, hC]
  rfl
theorem wordD_4 (W : List UInt8) (n p : Nat) (hp : p + 4 = 4 * n) (hl : 4 * n ≤ W.length) (h : n % 8 = 4) :
    wordD W n = [gb sbox (gb W p).toNat, gb sbox (gb W (p + 1)).toNat, gb sbox (gb W (p + 2)).toNat, gb sbox (gb W (p + 3)).toNat] := by
  have hB : wordB W n = [gb W p, gb W (p + 1), gb W (p + 2), gb W (p + 3)] := by
    rw [wordB, if_neg (by omega), wordA_four W n p hp hl]
  rw [wordD, if_neg (by omega), wordC, if_pos (by omega), hB, fill4, subF_sbox, subF_sbox, subF_sbox, subF_sbox]
  rfl
theorem wordD_else (W : List UInt8) (n p : Nat) (hp : p + 4 = 4 * n) (hl : 4 * n ≤ W.length) (h0 : n % 8 ≠ 0) (h4 : n % 8 ≠ 4) :
    wordD W n = [gb W p, gb W (p + 1), gb W (p + 2), gb W (p + 3)] := by
  rw [wordD, if_neg h0, wordC, if_neg (by omega), wordB, if_neg h0, wordA_four W n p hp hl]
theorem pow_next (n : Nat) (h8 : 8 ≤ n) (h : n % 8 = 0) : pow (n / 8) = times (pow ((n - 1) / 8)) 2 := by
  rw [show n / 8 = (n - 1) / 8 + 1 by omega, pow]
theorem rkey_ex (kb : List UInt8) (hk : kb.length = 32) (n j : Nat) (hn : n < 15) (hj : j < 16) : gb (rkey (cipher kb) n) j = gb (ex kb 60) (16 * n + j) := by
  have hl := ex_length kb hk 60 (Nat.le_refl _)
  rw [rkey, gb_take _ _ _ hj, gb_dropT, cipher, keyCells]
  have hlt : n * 16 + j < ((ex kb 60).take (4 * 60)).length := by rw [List.length_take, hl]; omega
  simp only [gb, List.getD_eq_getElem?_getD]
  rw [List.getElem?_append_left hlt, List.getElem?_take, if_pos (by omega), show n * 16 + j = 16 * n + j by omega]
end Go.Proofs.Ytfbcgpgpfpnpnaa.Aes
