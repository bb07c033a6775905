/- The plain law of what is stretched. Conditions: as each theorem names them. -/
import Derived.Test.YtbafbpfpnfnikaaDerB
namespace Go.Proofs.Ytbafbpfpnfnikaa.Given
open Go.RowKit
set_option linter.unusedVariables false
set_option linter.unusedSimpArgs false
theorem stretch_f (pw salt : ByteArray) (r b : Int) (h1 : pw.size ≤ 64) (h2 : salt.size = 16) (h3 : 1 ≤ r) (h4 : r ≤ 64) (h5 : 1 ≤ b) (h6 : b ≤ 2147483647) : derive_Stretch.f pw salt r b = some (stretchW pw salt r.toNat b.toNat, 0) := by
  unfold derive_Stretch.f
  rw [if_pos ⟨h1, h2, h3, h4, h5, h6⟩]
theorem stretch_no (pw salt : ByteArray) (r b : Int) (h : ¬ (pw.size ≤ 64 ∧ salt.size = 16 ∧ 1 ≤ r ∧ r ≤ 64 ∧ 1 ≤ b ∧ b ≤ 2147483647)) : derive_Stretch.f pw salt r b = some (⟨#[]⟩, 1) := by
  unfold derive_Stretch.f
  rw [if_neg h]
theorem hmac_f (k x : ByteArray) (hk : k.size ≤ 1000) (hx : x.size ≤ 1000) : sha_Hmac.f k x = some (hmacW k x) := by
  unfold sha_Hmac.f
  rw [if_pos ⟨by omega, by omega⟩]
theorem xorA_zero (u : ByteArray) (hu : u.size = 32) : xorA (List.replicate 32 0) u = u.data.toList := by
  have hl : u.data.toList.length = 32 := hu
  refine List.ext_getElem (by simp only [xorA, List.length_zipWith, List.length_replicate]; omega) fun i h1 h2 => ?_
  simp only [xorA, List.getElem_zipWith, List.getElem_replicate]
  simp
theorem textsL_one (pw first : ByteArray) : textsL pw first 1 = [hmacW pw first] := rfl
theorem textsL_succ (pw first : ByteArray) (n : Nat) : textsL pw first (n + 1) = textsL pw first n ++ [uN pw first (n + 1)] := by
  simp [textsL, List.range_succ]
theorem stretch_one (pw salt : ByteArray) (b : Nat) : stretchW pw salt 1 b = hmacW pw (salt ++ numB b) := by
  have h := xorA_zero (hmacW pw (salt ++ numB b)) (hmacW_size _ _)
  rw [stretchW, textsL_one]
  show (⟨(xorA (List.replicate 32 0) (hmacW pw (salt ++ numB b))).toArray⟩ : ByteArray) = _
  rw [h]
theorem stretch_succ (pw salt : ByteArray) (r b : Nat) : stretchW pw salt (r + 1) b = ⟨(xorA (stretchW pw salt r b).data.toList (uN pw (salt ++ numB b) (r + 1))).toArray⟩ := by
  rw [stretchW, textsL_succ, accL_snoc]
  rfl
theorem num_of (b : Int) (h1 : 1 ≤ b) (h2 : b ≤ 2147483647) : strOfNums [b / 16777216 % 256, b / 65536 % 256, b / 256 % 256, b % 256] = numB b.toNat := by
  have e : ∀ x y : Nat, x % 256 = y % 256 → UInt8.ofNat x = UInt8.ofNat y := fun x y h => UInt8.toNat_inj.1 (by rw [UInt8.toNat_ofNat', UInt8.toNat_ofNat']; exact h)
  have h0 : UInt8.ofNat (b / 16777216 % 256).toNat = UInt8.ofNat (b.toNat / 16777216) := e _ _ (by omega)
  have h1 : UInt8.ofNat (b / 65536 % 256).toNat = UInt8.ofNat (b.toNat / 65536) := e _ _ (by omega)
  have h2 : UInt8.ofNat (b / 256 % 256).toNat = UInt8.ofNat (b.toNat / 256) := e _ _ (by omega)
  have h3 : UInt8.ofNat (b % 256).toNat = UInt8.ofNat b.toNat := e _ _ (by omega)
  simp only [strOfNums, numB, numL4, List.map_cons, List.map_nil, h0, h1, h2, h3]
/-- A byte 0 behind a short key changes nothing. -/
theorem padK_more (k : ByteArray) (c : UInt8) (h : k.size < 64) : padK (k ++ ⟨#[0]⟩) c = padK k c := by
  have e : (k ++ ⟨#[0]⟩).data.toList = k.data.toList ++ [0] := by simp
  have es : (k ++ ⟨#[0]⟩).size = k.size + 1 := by rw [ByteArray.size_append]; rfl
  have er : List.replicate (64 - k.size) (0 : UInt8) = 0 :: List.replicate (64 - (k.size + 1)) 0 := by
    rw [← List.replicate_succ]; congr 1; omega
  rw [padK, padK, e, es, er, List.append_assoc]
  rfl
theorem hmac_more (k x : ByteArray) (h : k.size < 64) : hmacW (k ++ ⟨#[0]⟩) x = hmacW k x := by
  have es : (k ++ ⟨#[0]⟩).size = k.size + 1 := by rw [ByteArray.size_append]; rfl
  have e1 : keyW (k ++ ⟨#[0]⟩) = k ++ ⟨#[0]⟩ := by unfold keyW; rw [if_neg (by omega)]
  have e2 : keyW k = k := by unfold keyW; rw [if_neg (by omega)]
  rw [hmacW, hmacW, e1, e2, padK_more _ _ h, padK_more _ _ h]
theorem uN_more (k x : ByteArray) (h : k.size < 64) : ∀ n, uN (k ++ ⟨#[0]⟩) x n = uN k x n
  | 0 => rfl
  | n + 1 => by rw [uN, uN, uN_more k x h n, hmac_more _ _ h]
theorem stretch_more (k salt : ByteArray) (r b : Nat) (h : k.size < 64) : stretchW (k ++ ⟨#[0]⟩) salt r b = stretchW k salt r b := by
  have e : textsL (k ++ ⟨#[0]⟩) (salt ++ numB b) r = textsL k (salt ++ numB b) r := by
    unfold textsL
    exact List.map_congr_left fun i _ => uN_more _ _ h _
  rw [stretchW, stretchW, e]
end Go.Proofs.Ytbafbpfpnfnikaa.Given
