/- AES' key schedule in plain Lean, as the program has it. Conditions: none. -/
import Derived.Test.YtfbcgpgpfpnpnaaAesS
namespace Go.Proofs.Ytfbcgpgpfpnpnaa.Aes
open Go Go.RowKit Go.Proofs.Ytfbcgpgpfpnpnaa.Row Go.Proofs.Ytfbcgpgpfpnpnaa.Row.At
set_option maxRecDepth 100000
set_option linter.unusedVariables false
set_option linter.unusedSimpArgs false

/-- Places b, b+1 .. of a list, k of them, set one by one. -/
def fill (W : List UInt8) (b : Nat) (f : Nat → UInt8) : Nat → List UInt8
  | 0 => W
  | k + 1 => (fill W b f k).set (b + k) (f k)
theorem fill_length (W : List UInt8) (b : Nat) (f : Nat → UInt8) : ∀ k, (fill W b f k).length = W.length
  | 0 => rfl
  | k + 1 => by rw [fill, List.length_set, fill_length W b f k]
theorem fill_out (W : List UInt8) (b : Nat) (f : Nat → UInt8) (j : Nat) : ∀ k, (j < b ∨ b + k ≤ j) → gb (fill W b f k) j = gb W j
  | 0, _ => rfl
  | k + 1, h => by
    have h1 := fill_out W b f j k (by omega)
    rw [fill]
    rw [← h1]
    have hne : b + k ≠ j := by omega
    simp [gb, List.getD_eq_getElem?_getD, hne]
theorem fill_in (W : List UInt8) (b : Nat) (f : Nat → UInt8) (j : Nat) : ∀ k, b ≤ j → j < b + k → j < W.length → gb (fill W b f k) j = f (j - b)
  | 0, h1, h2, _ => by omega
  | k + 1, h1, h2, h3 => by
    rw [fill]
    by_cases e : b + k = j
    · subst e
      rw [gb_set_same _ _ _ (by rw [fill_length]; exact h3)]
      congr 1
      omega
    · have := fill_in W b f j k h1 (by omega) h3
      rw [← this]
      simp [gb, List.getD_eq_getElem?_getD, e]
def pow : Nat → UInt8
  | 0 => 1
  | n + 1 => times (pow n) 2
/-- the word ahead, turned, replaced, with the power -/
def wordA (W : List UInt8) (i : Nat) : List UInt8 := (W.drop ((i - 1) * 4)).take 4
def turnW (w : List UInt8) : List UInt8 := [gb w 1, gb w 2, gb w 3, gb w 0]
def subF (w : List UInt8) (k : Nat) : UInt8 := gb standCells (240 + (gb w k).toNat)
def wordB (W : List UInt8) (i : Nat) : List UInt8 := if i % 8 = 0 then turnW (wordA W i) else wordA W i
def wordC (W : List UInt8) (i : Nat) : List UInt8 := if i % 4 = 0 then fill (wordB W i) 0 (subF (wordB W i)) 4 else wordB W i
def wordD (W : List UInt8) (i : Nat) : List UInt8 := if i % 8 = 0 then (wordC W i).set 0 (gb (wordC W i) 0 ^^^ pow ((i - 1) / 8)) else wordC W i
def nextF (W : List UInt8) (i : Nat) (k : Nat) : UInt8 := gb W ((i - 8) * 4 + k) ^^^ gb (wordD W i) k
/-- the words' 240 bytes after i rounds -/
def ex (kb : List UInt8) : Nat → List UInt8
  | 0 => List.replicate 240 0
  | i + 1 => if i < 8 then spl (ex kb i) (i * 4) ((kb.drop (i * 4)).take 4) else fill (ex kb i) (i * 4) (nextF (ex kb i) i) 4
theorem ex_length (kb : List UInt8) (hk : kb.length = 32) : ∀ i, i ≤ 60 → (ex kb i).length = 240
  | 0, _ => List.length_replicate ..
  | i + 1, h => by
    rw [ex]
    split
    · rw [spl_length _ _ _ (by rw [ex_length kb hk i (by omega), List.length_take]; omega), ex_length kb hk i (by omega)]
    · rw [fill_length, ex_length kb hk i (by omega)]
theorem wordA_length (W : List UInt8) (i : Nat) (h : W.length = 240) (h1 : 1 ≤ i) (h2 : i ≤ 60) : (wordA W i).length = 4 := by
  rw [wordA, List.length_take, List.length_drop, h]; omega
theorem wordB_length (W : List UInt8) (i : Nat) (h : W.length = 240) (h1 : 1 ≤ i) (h2 : i ≤ 60) : (wordB W i).length = 4 := by
  rw [wordB]; split
  · rfl
  · exact wordA_length W i h h1 h2
theorem wordC_length (W : List UInt8) (i : Nat) (h : W.length = 240) (h1 : 1 ≤ i) (h2 : i ≤ 60) : (wordC W i).length = 4 := by
  rw [wordC]; split
  · rw [fill_length, wordB_length W i h h1 h2]
  · exact wordB_length W i h h1 h2
theorem wordD_length (W : List UInt8) (i : Nat) (h : W.length = 240) (h1 : 1 ≤ i) (h2 : i ≤ 60) : (wordD W i).length = 4 := by
  rw [wordD]; split
  · rw [List.length_set, wordC_length W i h h1 h2]
  · exact wordC_length W i h h1 h2
/-- a cipher's cells after i of the 60 words were copied -/
def keyCells (W : List UInt8) (i : Nat) : List UInt8 := W.take (4 * i) ++ standCells.drop (4 * i)
theorem keyCells_length (W : List UInt8) (h : W.length = 240) (i : Nat) (hi : i ≤ 60) : (keyCells W i).length = 752 := by
  rw [keyCells, List.length_append, List.length_take, List.length_drop, standCells_length, h]; omega
theorem keyCells_zero (W : List UInt8) : keyCells W 0 = standCells := by simp [keyCells]
theorem keyCells_next (W : List UInt8) (h : W.length = 240) (i : Nat) (hi : i < 60) : spl (keyCells W i) (4 * i) ((W.drop (4 * i)).take 4) = keyCells W (i + 1) := by
  have hl : (W.take (4 * i)).length = 4 * i := by rw [List.length_take, h]; omega
  have hm : ((W.drop (4 * i)).take 4).length = 4 := by rw [List.length_take, List.length_drop, h]; omega
  rw [spl, hm, keyCells, keyCells, List.take_left' hl, show 4 * i + 4 = (W.take (4 * i)).length + 4 by rw [hl], List.drop_length_add_append, List.drop_drop]
  rw [show 4 * (i + 1) = 4 * i + 4 by omega, List.take_add]
/-- all cells of the cipher of a key -/
def cipher (kb : List UInt8) : List UInt8 := keyCells (ex kb 60) 60
theorem cipher_length (kb : List UInt8) (h : kb.length = 32) : (cipher kb).length = 752 := keyCells_length _ (ex_length kb h 60 (Nat.le_refl _)) 60 (Nat.le_refl _)
def toT (C : List UInt8) : List UInt8 := (C.drop 240).take 256
def fromT (C : List UInt8) : List UInt8 := (C.drop 496).take 256
def rkey (C : List UInt8) (n : Nat) : List UInt8 := (C.drop (n * 16)).take 16
/-- one round of enciphering -/
def encMix (C s : List UInt8) (n : Nat) : List UInt8 := if n = 0 then s else rowL (swapL s (toT C)) 1
def encCol (s : List UInt8) (n : Nat) : List UInt8 := if n = 0 ∨ n = 14 then s else colL s [2, 3, 1, 1]
def encRound (C s : List UInt8) (n : Nat) : List UInt8 := withL (encCol (encMix C s n) n) (rkey C n)
/-- one round of deciphering, m the rounds that are left -/
def decCol (s : List UInt8) (m : Nat) : List UInt8 := if m = 0 ∨ m = 14 then s else colL s [14, 11, 13, 9]
def decMix (C s : List UInt8) (m : Nat) : List UInt8 := if m = 0 then s else swapL (rowL s 3) (fromT C)
def decRound (C s : List UInt8) (n : Nat) : List UInt8 := decMix C (decCol (withL s (rkey C (14 - n))) (14 - n)) (14 - n)
def steps (f : List UInt8 → Nat → List UInt8) (s : List UInt8) : Nat → List UInt8
  | 0 => s
  | n + 1 => f (steps f s n) n
/-- A block enciphered, deciphered, by a key. -/
def encS (kb s : List UInt8) : List UInt8 := steps (encRound (cipher kb)) s 15
def decS (kb s : List UInt8) : List UInt8 := steps (decRound (cipher kb)) s 15
theorem encMix_length (C s : List UInt8) (n : Nat) (h : s.length = 16) : (encMix C s n).length = 16 := by
  rw [encMix]; split
  · exact h
  · exact mk16_length _
theorem encCol_length (s : List UInt8) (n : Nat) (h : s.length = 16) : (encCol s n).length = 16 := by
  rw [encCol]; split
  · exact h
  · exact mk16_length _
theorem encRound_length (C s : List UInt8) (n : Nat) : (encRound C s n).length = 16 := mk16_length _
theorem decCol_length (s : List UInt8) (n : Nat) (h : s.length = 16) : (decCol s n).length = 16 := by
  rw [decCol]; split
  · exact h
  · exact mk16_length _
theorem decMix_length (C s : List UInt8) (n : Nat) (h : s.length = 16) : (decMix C s n).length = 16 := by
  rw [decMix]; split
  · exact h
  · exact mk16_length _
theorem decRound_length (C s : List UInt8) (n : Nat) : (decRound C s n).length = 16 := decMix_length _ _ _ (decCol_length _ _ (mk16_length _))
theorem steps_length (f : List UInt8 → Nat → List UInt8) (hf : ∀ s n, (f s n).length = 16) (s : List UInt8) (h : s.length = 16) : ∀ n, (steps f s n).length = 16
  | 0 => h
  | n + 1 => hf _ _
theorem toT_length (C : List UInt8) (h : C.length = 752) : (toT C).length = 256 := by rw [toT, List.length_take, List.length_drop, h]; rfl
theorem fromT_length (C : List UInt8) (h : C.length = 752) : (fromT C).length = 256 := by rw [fromT, List.length_take, List.length_drop, h]; rfl
theorem rkey_length (C : List UInt8) (h : C.length = 752) (n : Nat) (hn : n < 15) : (rkey C n).length = 16 := by rw [rkey, List.length_take, List.length_drop, h]; omega
end Go.Proofs.Ytfbcgpgpfpnpnaa.Aes
