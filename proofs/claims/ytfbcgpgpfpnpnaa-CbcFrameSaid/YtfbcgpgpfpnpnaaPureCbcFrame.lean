/- A frame has the least multiple of 16 bytes that has room for 8 and the data: their number, they, and noughts. Conditions: none but the statement's own. -/
import Derived.Test.YtfbcgpgpfpnpnaaPCbcFramex1
import Derived.Test.YtfbcgpgpfpnpnaaCbcP
namespace Go.Proofs.Ytfbcgpgpfpnpnaa.Pure
open Go.RowKit Go.Proofs.Ytfbcgpgpfpnpnaa.PCbcFrame Go.Proofs.YtfbcgpgpfpnpnaaW.PrintWords Go.Proofs.YtfbcgpgpfpnpnaaW.PrintLast Go.Proofs.YtfbcgpgpfpnpnaaW.PrintMore

set_option linter.unusedVariables false
set_option linter.unusedSimpArgs false

open Given Cbc in
theorem byte_at (s : ByteArray) (i : Nat) (h : i < s.size) : bt s (i : Int) = ((s.data.toList.getD i 0).toNat : Int) := by
  have h2 : i < s.data.size := h
  unfold bt
  rw [dif_pos (by simpa using h)]
  simp only [Int.toNat_natCast]
  rw [List.getD_eq_getElem?_getD, List.getElem?_eq_getElem (by simpa using h2)]
  rfl
open Given Cbc in
theorem nums_loop (a0 f : ByteArray) (h8 : 8 ≤ f.size) (r : Bool) (h : ∃ K, ∀ k, K ≤ k → hamperlaw10_CbcFrame.l1 k a0 f (numL (f.data.toList.take 8) : Int) (wrap64 (8 + (a0.size : Int))) = some r)
    (hs : numL (f.data.toList.take 8) < 1000000) : ∀ d i : Nat, i + d = 8 → ∃ K, ∀ k, K ≤ k → hamperlaw10_CbcFrame.l0 k a0 f (numL (f.data.toList.take i) : Int) (i : Int) = some r := by
  intro d
  induction d with
  | zero =>
    intro i hi
    obtain ⟨K, hK⟩ := h
    refine ⟨K + 1, fun k hk => ?_⟩
    obtain ⟨k, rfl⟩ : ∃ m, k = m + 1 := ⟨k - 1, by omega⟩
    obtain rfl : i = 8 := by omega
    simp only [hamperlaw10_CbcFrame.l0]
    rw [if_neg (by omega)]
    exact hK k (by omega)
  | succ d ih =>
    intro i hi
    obtain ⟨K, hK⟩ := ih (i + 1) (by omega)
    refine ⟨K + 1, fun k hk => ?_⟩
    obtain ⟨k, rfl⟩ : ∃ m, k = m + 1 := ⟨k - 1, by omega⟩
    simp only [hamperlaw10_CbcFrame.l0]
    rw [if_pos (by omega), if_pos (by omega), if_pos (by omega)]
    have hlen : i < f.data.toList.length := by rw [toList_length]; omega
    have htake : f.data.toList.take (i + 1) = f.data.toList.take i ++ [f.data.toList.getD i 0] := by
      rw [← List.take_append_getElem hlen]
      rw [List.getD_eq_getElem?_getD, List.getElem?_eq_getElem hlen]
      rfl
    have hle : numL (f.data.toList.take (i + 1)) < 256 ^ 7 := by
      by_cases h7 : i + 1 = 8
      · rw [h7]
        exact Nat.lt_trans hs (by decide)
      · have := numL_lt (f.data.toList.take (i + 1))
        rw [List.length_take] at this
        exact Nat.lt_of_lt_of_le this (Nat.pow_le_pow_right (by decide) (by omega))
    have hle2 : (256 : Nat) ^ 7 = 72057594037927936 := by decide
    rw [hle2] at hle
    have h1 : numL (f.data.toList.take (i + 1)) = numL (f.data.toList.take i) * 256 + (f.data.toList.getD i 0).toNat := by rw [htake, numL_snoc]
    have e1 : wrap64 (wrap64 ((numL (f.data.toList.take i) : Int) * 256) + wrap64 (bt f (i : Int))) = (numL (f.data.toList.take (i + 1)) : Int) := by
      rw [byte_at f i (by omega), h1]
      have hb := (f.data.toList.getD i 0).toNat_lt
      generalize (f.data.toList.getD i 0).toNat = b at *
      generalize numL (f.data.toList.take i) = n at *
      have hn : n * 256 + b < 72057594037927936 := by rw [← h1]; exact hle
      rw [Row.wrap64_of_bounds (n := (n : Int) * 256) (by omega) (by omega), Row.wrap64_of_bounds (n := (b : Int)) (by omega) (by omega), Row.wrap64_of_bounds (by omega) (by omega)]
      omega
    have e2 : wrap64 ((i : Int) + 1) = ((i + 1 : Nat) : Int) := by unfold wrap64; omega
    rw [e1, e2]
    exact hK k (by omega)

open Given Cbc in
theorem zeros_loop (a0 f : ByteArray) (n : Nat) (hn : n = a0.size) (hz : ∀ i, 8 + n ≤ i → i < f.size → f.data.toList.getD i 0 = 0) (hf : f.size < 1000000) :
    ∀ d i : Nat, 8 + n ≤ i → i + d = f.size → ∀ k, d + 1 ≤ k → hamperlaw10_CbcFrame.l1 k a0 f (n : Int) (i : Int) = some true := by
  intro d
  induction d with
  | zero =>
    intro i h8 hi k hk
    obtain ⟨k, rfl⟩ : ∃ m, k = m + 1 := ⟨k - 1, by omega⟩
    simp only [hamperlaw10_CbcFrame.l1]
    rw [if_neg (by omega), hn]
    simp
  | succ d ih =>
    intro i h8 hi k hk
    obtain ⟨k, rfl⟩ : ∃ m, k = m + 1 := ⟨k - 1, by omega⟩
    simp only [hamperlaw10_CbcFrame.l1]
    rw [if_pos (by omega), if_pos (by omega), byte_at f i (by omega), hz i h8 (by omega), if_pos (by rfl)]
    have e2 : wrap64 ((i : Int) + 1) = ((i + 1 : Nat) : Int) := by unfold wrap64; omega
    rw [e2]
    exact ih (i + 1) (by omega) (by omega) k (by omega)
open Given Cbc in
theorem CbcFrame : hamperlaw10_CbcFrame.Pure := by
  intro a0 h0
  unfold hamperlaw10_CbcFrame.f
  by_cases hb : (a0.size : Int) > 70000
  · exact ⟨1, by rw [if_pos hb]; simp [hamperlaw10_CbcFrame.j0, law10_awake.f]⟩
  · have hz := frameW_size a0
    have hm := frameW_mod a0
    have hp : pad a0.size < 16 := by unfold pad; omega
    have hs : (frameW a0).size < 1000000 := by omega
    have hn : numL ((frameW a0).data.toList.take 8) = a0.size := by rw [frame_take8, be8_num _ (by omega)]
    have hzero : ∀ i, 8 + a0.size ≤ i → i < (frameW a0).size → (frameW a0).data.toList.getD i 0 = 0 := by
      intro i h1 h2
      rw [List.getD_eq_getElem?_getD, frameW, bs_toList, frameL, List.getElem?_append_right (by rw [List.length_append, be8_length, toList_length]; exact h1)]
      rw [List.length_append, be8_length, toList_length, List.getElem?_replicate]
      split <;> rfl
    have hw8 : wrap64 (8 + (a0.size : Int)) = ((8 + a0.size : Nat) : Int) := by unfold wrap64; omega
    obtain ⟨K, hK⟩ := nums_loop a0 (frameW a0) (by omega) true
      ⟨pad a0.size + 1, fun k hk => by rw [hn, hw8]; exact zeros_loop a0 (frameW a0) a0.size rfl hzero hs (pad a0.size) (8 + a0.size) (by omega) (by omega) k hk⟩ (by rw [hn]; omega) 8 0 (by omega)
    refine ⟨K + 3, ?_⟩
    rw [if_neg hb]
    simp only [law10_awake.f, Option.bind_some, Bool.not_true, hamperlaw10_CbcFrame.j0, Bool.false_eq_true, if_false]
    have hf : cbc_Frame.f a0 = some (frameW a0) := by unfold cbc_Frame.f; rw [if_pos h0]
    rw [hf]
    simp only [Option.bind_some]
    have w8 : wrap64 ((a0.size : Int) + 8) = (a0.size : Int) + 8 := by unfold wrap64; omega
    have w24 : wrap64 ((a0.size : Int) + 24) = (a0.size : Int) + 24 := by unfold wrap64; omega
    rw [w8, w24, hw8, if_pos (by omega), if_neg (by omega), if_neg (by omega), if_pos (by omega), if_pos (by omega)]
    simp only [Int.toNat_natCast]
    rw [frame_data]
    simp only [bne_self_eq_false, hamperlaw10_CbcFrame.j1, Bool.false_eq_true, if_false]
    exact hK _ (by omega)

end Go.Proofs.Ytfbcgpgpfpnpnaa.Pure
