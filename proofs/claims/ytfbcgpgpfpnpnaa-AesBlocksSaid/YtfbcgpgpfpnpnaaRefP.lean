/- The document's rounds are the program's: plain law. Conditions: blocks of 16 bytes. -/
import Derived.Test.YtfbcgpgpfpnpnaaRefV
namespace Go.Proofs.Ytfbcgpgpfpnpnaa.Aes
open Go Go.RowKit Go.Proofs.Ytfbcgpgpfpnpnaa.Row Go.Proofs.Ytfbcgpgpfpnpnaa.Row.At Go.Proofs.Ytfbcgpgpfpnpnaa.Given
set_option maxRecDepth 100000
set_option linter.unusedVariables false
set_option linter.unusedSimpArgs false
/-! enciphering -/
theorem Part.len {f : Nat → UInt8} {s l : List UInt8} {i : Nat} (h : Part f s i l) : l.length = 16 := h.1
theorem Part.later {f : Nat → UInt8} {s l : List UInt8} {i j : Nat} (h : Part f s i l) (hj : j < 16) (hij : i ≤ j) : gb l j = gb s j := by rw [h.2 j hj, if_neg (by omega)]
def subRow (s : List UInt8) (j : Nat) : UInt8 := gb sbox (gb s (j % 4 + 4 * ((j / 4 + j % 4) % 4))).toNat
theorem subRow_all (s : List UInt8) : mk16 (subRow s) = rowL (swapL s sbox) 1 := by
  refine ext8 (by rw [mk16_length, rowL, mk16_length]) fun j hj => ?_
  rw [mk16_length] at hj
  rw [mk16_at _ j hj, rowL, mk16_at _ j hj, rowF, swapL, mk16_at _ _ (by omega), swapF, subRow, Nat.mul_one]
def keyF (W x : List UInt8) (n j : Nat) : UInt8 := gb x j ^^^ gb W (16 * n + j)
theorem keyF_all (kb x : List UInt8) (hk : kb.length = 32) (n : Nat) (hn : n < 15) : mk16 (keyF (ex kb 60) x n) = withL x (rkey (cipher kb) n) := by
  refine ext8 (by rw [mk16_length, withL, mk16_length]) fun j hj => ?_
  rw [mk16_length] at hj
  rw [mk16_at _ j hj, withL, mk16_at _ j hj, withF, keyF, rkey_ex kb hk n j hn hj]
theorem enc_0 (kb s : List UInt8) : encRound (cipher kb) s 0 = withL s (rkey (cipher kb) 0) := rfl
theorem enc_mid (kb s : List UInt8) (hk : kb.length = 32) (n : Nat) (h0 : 1 ≤ n) (hn : n < 14) : encRound (cipher kb) s n = withL (colL (rowL (swapL s sbox) 1) encB) (rkey (cipher kb) n) := by
  rw [encRound, encCol, if_neg (by omega), encMix, if_neg (by omega), toT_cipher kb hk]
  rfl
theorem enc_last (kb s : List UInt8) (hk : kb.length = 32) : encRound (cipher kb) s 14 = withL (rowL (swapL s sbox) 1) (rkey (cipher kb) 14) := by
  rw [encRound, encCol, if_pos (by omega), encMix, if_neg (by omega), toT_cipher kb hk]
theorem times_one_r (x : UInt8) : times x 1 = x := by rw [times_comm, times_one]
theorem colF_at (x by_ : List UInt8) (c r : Nat) (hr : r < 4) : colF x by_ (4 * c + r) = col4 (fun k => gb x (4 * c + k)) by_ r := by
  rw [colF_eq, show (4 * c + r) / 4 = c by omega, show (4 * c + r) % 4 = r by omega]
theorem enc_c0 (x : List UInt8) (c : Nat) : colF x encB (4 * c) = times 2 (gb x (4 * c)) ^^^ times 3 (gb x (4 * c + 1)) ^^^ gb x (4 * c + 2) ^^^ gb x (4 * c + 3) := by
  have := colF_at x encB c 0 (by decide)
  rw [Nat.add_zero] at this
  rw [this]
  show times _ 2 ^^^ times _ 3 ^^^ times _ 1 ^^^ times _ 1 = _
  rw [times_one_r, times_one_r, times_comm _ 2, times_comm _ 3]
  rfl
theorem enc_c1 (x : List UInt8) (c : Nat) : colF x encB (4 * c + 1) = gb x (4 * c) ^^^ times 2 (gb x (4 * c + 1)) ^^^ times 3 (gb x (4 * c + 2)) ^^^ gb x (4 * c + 3) := by
  rw [colF_at x encB c 1 (by decide)]
  show times _ 1 ^^^ times _ 2 ^^^ times _ 3 ^^^ times _ 1 = _
  rw [times_one_r, times_one_r, times_comm _ 2, times_comm _ 3]
  rfl
theorem enc_c2 (x : List UInt8) (c : Nat) : colF x encB (4 * c + 2) = gb x (4 * c) ^^^ gb x (4 * c + 1) ^^^ times 2 (gb x (4 * c + 2)) ^^^ times 3 (gb x (4 * c + 3)) := by
  rw [colF_at x encB c 2 (by decide)]
  show times _ 1 ^^^ times _ 1 ^^^ times _ 2 ^^^ times _ 3 = _
  rw [times_one_r, times_one_r, times_comm _ 2, times_comm _ 3]
  rfl
theorem enc_c3 (x : List UInt8) (c : Nat) : colF x encB (4 * c + 3) = times 3 (gb x (4 * c)) ^^^ gb x (4 * c + 1) ^^^ gb x (4 * c + 2) ^^^ times 2 (gb x (4 * c + 3)) := by
  rw [colF_at x encB c 3 (by decide)]
  show times _ 3 ^^^ times _ 1 ^^^ times _ 1 ^^^ times _ 2 = _
  rw [times_one_r, times_one_r, times_comm _ 2, times_comm _ 3]
  rfl
/-! deciphering -/
theorem dec_c0 (x : List UInt8) (c : Nat) : colF x decB (4 * c) = times 14 (gb x (4 * c)) ^^^ times 11 (gb x (4 * c + 1)) ^^^ times 13 (gb x (4 * c + 2)) ^^^ times 9 (gb x (4 * c + 3)) := by
  have := colF_at x decB c 0 (by decide)
  rw [Nat.add_zero] at this
  rw [this]
  show times _ 14 ^^^ times _ 11 ^^^ times _ 13 ^^^ times _ 9 = _
  rw [times_comm _ 14, times_comm _ 11, times_comm _ 13, times_comm _ 9]
  rfl
theorem dec_c1 (x : List UInt8) (c : Nat) : colF x decB (4 * c + 1) = times 9 (gb x (4 * c)) ^^^ times 14 (gb x (4 * c + 1)) ^^^ times 11 (gb x (4 * c + 2)) ^^^ times 13 (gb x (4 * c + 3)) := by
  rw [colF_at x decB c 1 (by decide)]
  show times _ 9 ^^^ times _ 14 ^^^ times _ 11 ^^^ times _ 13 = _
  rw [times_comm _ 14, times_comm _ 11, times_comm _ 13, times_comm _ 9]
  rfl
theorem dec_c2 (x : List UInt8) (c : Nat) : colF x decB (4 * c + 2) = times 13 (gb x (4 * c)) ^^^ times 9 (gb x (4 * c + 1)) ^^^ times 14 (gb x (4 * c + 2)) ^^^ times 11 (gb x (4 * c + 3)) := by
  rw [colF_at x decB c 2 (by decide)]
  show times _ 13 ^^^ times _ 9 ^^^ times _ 14 ^^^ times _ 11 = _
  rw [times_comm _ 14, times_comm _ 11, times_comm _ 13, times_comm _ 9]
  rfl
theorem dec_c3 (x : List UInt8) (c : Nat) : colF x decB (4 * c + 3) = times 11 (gb x (4 * c)) ^^^ times 13 (gb x (4 * c + 1)) ^^^ times 9 (gb x (4 * c + 2)) ^^^ times 14 (gb x (4 * c + 3)) := by
  rw [colF_at x decB c 3 (by decide)]
  show times _ 11 ^^^ times _ 13 ^^^ times _ 9 ^^^ times _ 14 = _
  rw [times_comm _ 14, times_comm _ 11, times_comm _ 13, times_comm _ 9]
  rfl
theorem dec_first (kb s : List UInt8) (hk : kb.length = 32) : decRound (cipher kb) s 0 = swapL (rowL (withL s (rkey (cipher kb) 14)) 3) inv := by
  rw [decRound, decMix, if_neg (by omega), decCol, if_pos (by omega), fromT_cipher kb hk]
theorem dec_mid (kb s : List UInt8) (hk : kb.length = 32) (m : Nat) (h0 : 1 ≤ m) (hm : m < 14) : decRound (cipher kb) s (14 - m) = swapL (rowL (colL (withL s (rkey (cipher kb) m)) decB) 3) inv := by
  rw [decRound, show 14 - (14 - m) = m by omega, decMix, if_neg (by omega), decCol, if_neg (by omega), fromT_cipher kb hk]
  rfl
theorem dec_end (kb s : List UInt8) : decRound (cipher kb) s 14 = withL s (rkey (cipher kb) 0) := rfl
def dst (i : Nat) : Nat := i % 4 + 4 * ((i / 4 + i % 4) % 4)
theorem dst_lt (i : Nat) (h : i < 16) : dst i < 16 := by unfold dst; omega
theorem dst_inj : ∀ i : Nat, i < 16 → ∀ j : Nat, j < 16 → dst i = dst j → i = j := by decide
theorem dst_src : ∀ j : Nat, j < 16 → dst (j % 4 + 4 * ((j / 4 + j % 4 * 3) % 4)) = j := by decide
/-- What the loop that goes back through the rows has made so far. -/
def PartD (s : List UInt8) (i : Nat) (l : List UInt8) : Prop := l.length = 16 ∧ ∀ k, k < i → gb l (dst k) = gb inv (gb s k).toNat
theorem PartD.start (s : List UInt8) : PartD s 0 (List.replicate 16 0) := ⟨by simp, fun k h => by omega⟩
theorem PartD.next {s l : List UInt8} {i : Nat} (h : PartD s i l) (hi : i < 16) : PartD s (i + 1) (l.set (dst i) (gb inv (gb s i).toNat)) := by
  refine ⟨by rw [List.length_set]; exact h.1, fun k hk => ?_⟩
  rw [gb_set _ _ _ _ (by rw [h.1]; exact dst_lt i hi)]
  by_cases e : i = k
  · subst e; rw [if_pos rfl]
  · rw [if_neg (fun e2 => e (dst_inj i hi k (by omega) e2)), h.2 k (by omega)]
theorem PartD.done {s l : List UInt8} (h : PartD s 16 l) : l = swapL (rowL s 3) inv := by
  refine ext8 (by rw [h.1, swapL_length]) fun j hj => ?_
  rw [h.1] at hj
  rw [swapL, mk16_at _ j hj, swapF, rowL, mk16_at _ j hj, rowF]
  have h1 := h.2 (j % 4 + 4 * ((j / 4 + j % 4 * 3) % 4)) (by omega)
  rw [dst_src j hj] at h1
  exact h1
theorem inv_length : inv.length = 256 := by
  show ((standCells.drop 496).take 256).length = 256
  rw [List.length_take, List.length_drop, standCells_length]
  rfl
theorem sbox_inj (a b : UInt8) (h : gb sbox a.toNat = gb sbox b.toNat) : a = b := by
  rw [← inv_sbox a, h, inv_sbox b]
/-- What the loop over all stand-ins has turned back so far. -/
def PartB (i : Nat) (l : List UInt8) : Prop := l.length = 256 ∧ ∀ k, k < i → gb l (gb sbox k).toNat = UInt8.ofNat k
theorem PartB.start : PartB 0 (List.replicate 256 0) := ⟨by simp, fun k h => by omega⟩
theorem PartB.next {l : List UInt8} {i : Nat} (h : PartB i l) (hi : i < 256) : PartB (i + 1) (l.set (gb sbox i).toNat (UInt8.ofNat i)) := by
  refine ⟨by rw [List.length_set]; exact h.1, fun k hk => ?_⟩
  rw [gb_set _ _ _ _ (by rw [h.1]; exact (gb sbox i).toNat_lt)]
  by_cases e : i = k
  · subst e; rw [if_pos rfl]
  · rw [if_neg (fun e2 => e ?_), h.2 k (by omega)]
    have e3 : gb sbox (UInt8.ofNat i).toNat = gb sbox (UInt8.ofNat k).toNat := by
      rw [UInt8.toNat_ofNat', UInt8.toNat_ofNat', Nat.mod_eq_of_lt hi, Nat.mod_eq_of_lt (by omega)]
      exact UInt8.toNat_inj.1 e2
    have e4 := congrArg UInt8.toNat (sbox_inj _ _ e3)
    rw [UInt8.toNat_ofNat', UInt8.toNat_ofNat', Nat.mod_eq_of_lt hi, Nat.mod_eq_of_lt (by omega)] at e4
    exact e4
theorem PartB.done {l : List UInt8} (h : PartB 256 l) : l = inv := by
  refine ext8 (by rw [h.1, inv_length]) fun j hj => ?_
  rw [h.1] at hj
  have e := (inv_sbox_all j hj).2
  have h1 := h.2 (gb inv j).toNat (gb inv j).toNat_lt
  rw [e, UInt8.toNat_ofNat', Nat.mod_eq_of_lt hj, UInt8.ofNat_toNat] at h1
  exact h1
end Go.Proofs.Ytfbcgpgpfpnpnaa.Aes
