/- The contract of hamperref07.Hmac. Conditions: fewer than 2^47 bytes. -/
import Derived.Test.YtbafbpfpnfnikaaPHmaQ
import Derived.Test.YtbafbpfpnfnikaaShaH
namespace Go.Proofs.Ytbafbpfpnfnikaa.Given
open Go.RowKit Go.Proofs.YtbafbpfpnfnikaaW.PrintWords Go.Proofs.YtbafbpfpnfnikaaW.PrintLast Go.Proofs.YtbafbpfpnfnikaaW.PrintMore
open Go.Proofs.Ytbafbpfpnfnikaa.Row Go.Proofs.Ytbafbpfpnfnikaa.Row.At Go.Proofs.Ytbafbpfpnfnikaa.PHma
set_option maxRecDepth 100000
set_option linter.unusedVariables false
set_option linter.unusedSimpArgs false
/-- bytes as numbers -/
def nbH (l : List UInt8) : List Int := l.map fun b => (b.toNat : Int)
theorem nbH_length (l : List UInt8) : (nbH l).length = l.length := by simp [nbH]
theorem str_nbH (l : List UInt8) : strOfNums (nbH l) = ⟨l.toArray⟩ := by
  unfold strOfNums nbH
  rw [List.map_map]
  congr 1
  have e : ((fun x : Int => UInt8.ofNat x.toNat) ∘ fun b : UInt8 => (b.toNat : Int)) = id := by
    funext b
    simp
  first
    | rw [e, List.map_id]
    | simp
/-- a key with noughts behind it -/
def kpad (k : ByteArray) : List UInt8 := k.data.toList ++ List.replicate (64 - k.size) 0
theorem kpad_length (k : ByteArray) (h : k.size ≤ 64) : (kpad k).length = 64 := by
  rw [kpad, List.length_append, List.length_replicate, Array.length_toList]
  show k.size + (64 - k.size) = 64
  omega
theorem kpad_lt (k : ByteArray) (i : Nat) (hi : i < k.size) : (kpad k)[i]? = some (k.data.toList[i]'(by rw [Array.length_toList]; exact hi)) := by
  have hl : i < k.data.toList.length := by rw [Array.length_toList]; exact hi
  rw [kpad, List.getElem?_append_left hl, List.getElem?_eq_getElem hl]
theorem kpad_ge (k : ByteArray) (i : Nat) (hi : k.size ≤ i) (h64 : i < 64) : (kpad k)[i]? = some 0 := by
  have hl : k.data.toList.length = k.size := Array.length_toList
  rw [kpad, List.getElem?_append_right (by omega), hl, List.getElem?_replicate, if_pos (by omega)]
theorem xor54 (b : UInt8) : bits .xor .u8 (b.toNat : Int) 54 = ((b ^^^ 54).toNat : Int) := u8x b 54
theorem xor92 (b : UInt8) : bits .xor .u8 (b.toNat : Int) 92 = ((b ^^^ 92).toNat : Int) := u8x b 92
def kx (k : ByteArray) (c : UInt8) (i : Nat) : List UInt8 := ((kpad k).take i).map (· ^^^ c)
theorem kx_length (k : ByteArray) (c : UInt8) (i : Nat) : (kx k c i).length ≤ i := by rw [kx, List.length_map, List.length_take]; omega
theorem kx_succ (k : ByteArray) (c b : UInt8) (i : Nat) (h : (kpad k)[i]? = some b) : nbH (kx k c (i + 1)) = nbH (kx k c i) ++ [((b ^^^ c).toNat : Int)] := by
  obtain ⟨hl, hb⟩ := List.getElem?_eq_some_iff.1 h
  rw [kx, kx, ← List.take_append_getElem hl, List.map_append, nbH, nbH, List.map_append, hb]
  rfl
theorem kx_all (k : ByteArray) (c : UInt8) (h : k.size ≤ 64) : (⟨(kx k c 64).toArray⟩ : ByteArray) = padK k c := by
  rw [kx, List.take_of_length_le (by rw [kpad_length k h]; exact Nat.le_refl _)]
  rfl
theorem padK_size64 (k : ByteArray) (c : UInt8) (h : k.size ≤ 64) : (padK k c).size = 64 := by
  show ((kpad k).map (· ^^^ c)).toArray.size = 64
  rw [List.size_toArray, List.length_map, kpad_length k h]
theorem bt_get (k : ByteArray) (i : Nat) (hi : i < k.size) : bt k (i : Int) = ((k.data.toList[i]'(by rw [Array.length_toList]; exact hi)).toNat : Int) := by
  have h : (i : Int).toNat < k.size := by rw [Int.toNat_natCast]; exact hi
  rw [bt, dif_pos h]
  simp only [Int.toNat_natCast]
  rfl
theorem hmac_loop (k x : ByteArray) (hk : k.size ≤ 64) (hx : x.size ≤ 140737488351100) : ∀ d i, i + d = 64 → ∀ q, d < q →
    hamperref07_Hmac.l0 q k x (nbH (kx k 54 i)) (nbH (kx k 92 i)) (i : Int) = some (shaW (padK k 92 ++ shaW (padK k 54 ++ x))) := by
  intro d
  induction d with
  | zero =>
    intro i hi q hq
    obtain ⟨q, rfl⟩ : ∃ m, q = m + 1 := ⟨q - 1, by omega⟩
    have hi64 : i = 64 := by omega
    subst hi64
    have z1 := padK_size64 k 54 hk
    have z2 := padK_size64 k 92 hk
    rw [hamperref07_Hmac.l0, if_neg (by omega), str_nbH, str_nbH, kx_all k 54 hk, kx_all k 92 hk, if_pos (by rw [z1]; omega)]
    have e1 : ref07_Sum.f (padK k 54 ++ x) = some (shaW (padK k 54 ++ x)) := by
      unfold ref07_Sum.f
      rw [if_pos (by rw [ByteArray.size_append, z1]; omega)]
    rw [e1]
    simp only [Option.bind_some]
    rw [if_pos (by rw [z2, shaW_size]; omega)]
    have e2 : ref07_Sum.f (padK k 92 ++ shaW (padK k 54 ++ x)) = some (shaW (padK k 92 ++ shaW (padK k 54 ++ x))) := by
      unfold ref07_Sum.f
      rw [if_pos (by rw [ByteArray.size_append, z2, shaW_size]; omega)]
    rw [e2]
    rfl
  | succ d ih =>
    intro i hi q hq
    obtain ⟨q, rfl⟩ : ∃ m, q = m + 1 := ⟨q - 1, by omega⟩
    have h1 := kx_length k 54 i
    have h2 := kx_length k 92 i
    have hw : wrap64 ((i : Int) + 1) = ((i + 1 : Nat) : Int) := by unfold wrap64; omega
    by_cases hik : i < k.size
    · rw [hamperref07_Hmac.l0, if_pos (by omega), if_pos (by omega), if_pos (by omega), if_pos (by rw [nbH_length]; omega), if_pos (by rw [nbH_length]; omega), bt_get k i hik, xor54, xor92, hw]
      have hg := kpad_lt k i hik
      rw [← kx_succ k 54 _ i hg, ← kx_succ k 92 _ i hg]
      exact ih (i + 1) (by omega) q (by omega)
    · have e54 : bits .xor .u8 0 54 = (((0 : UInt8) ^^^ 54).toNat : Int) := xor54 0
      have e92 : bits .xor .u8 0 92 = (((0 : UInt8) ^^^ 92).toNat : Int) := xor92 0
      rw [hamperref07_Hmac.l0, if_pos (by omega), if_neg (by omega), if_pos (by rw [nbH_length]; omega), if_pos (by rw [nbH_length]; omega), e54, e92, hw]
      have hg := kpad_ge k i (by omega) (by omega)
      rw [← kx_succ k 54 _ i hg, ← kx_succ k 92 _ i hg]
      exact ih (i + 1) (by omega) q (by omega)
theorem hmac_fR (k x : ByteArray) (hk : k.size ≤ 140737488351232) (hx : x.size ≤ 140737488351100) : hamperref07_Hmac.f 70 k x = some (hmacW k x) := by
  unfold hamperref07_Hmac.f
  by_cases h : 64 < k.size
  · have e1 : ref07_Sum.f k = some (shaW k) := by unfold ref07_Sum.f; rw [if_pos hk]
    rw [if_pos (by omega), e1]
    have hz : (shaW k).size ≤ 64 := by rw [shaW_size]; decide
    have hl := hmac_loop (shaW k) x hz hx 64 0 rfl 69 (by decide)
    have hkw : keyW k = shaW k := by rw [keyW, if_pos h]
    show hamperref07_Hmac.j0 (69 + 1) (shaW k) x = _
    rw [hamperref07_Hmac.j0, hmacW, hkw]
    exact hl
  · have hl := hmac_loop k x (by omega) hx 64 0 rfl 69 (by decide)
    have hkw : keyW k = k := by rw [keyW, if_neg h]
    rw [if_neg (by omega)]
    show hamperref07_Hmac.j0 (69 + 1) k x = _
    rw [hamperref07_Hmac.j0, hmacW, hkw]
    exact hl
theorem refHmac_all (k x : ByteArray) (hk : k.size ≤ 140737488351232) (hx : x.size ≤ 140737488351100) (w : World) :
    Calls Try.prog 21 #[.string k, .string x] w fun e w' => e = .returned (.string (hmacW k x)) ∧ Below w.heap.size w w' :=
  hamperref07_Hmac.calls 70 k x _ w (hmac_fR k x hk hx)
theorem refHmac_any (k x : ByteArray) (hk : k.size ≤ 1000) (hx : x.size ≤ 1000) (w : World) :
    Calls Try.prog 21 #[.string k, .string x] w fun e w' => e = .returned (.string (hmacW k x)) ∧ Below w.heap.size w w' := refHmac_all k x (by omega) (by omega) w
/-- What hamperref07.Hmac tells. -/
def ref07_Hmac.f (a0 a1 : ByteArray) : Option ByteArray := if a0.size ≤ 140737488351232 ∧ a1.size ≤ 140737488351100 then some (hmacW a0 a1) else none
theorem ref07_Hmac.calls (a0 a1 r : ByteArray) (w : World) (h : ref07_Hmac.f a0 a1 = some r) : Calls Try.prog 21 #[.string a0, .string a1] w fun e w' => e = .returned (.string r) ∧ Below w.heap.size w w' := by
  unfold ref07_Hmac.f at h
  split at h
  · rename_i hd
    obtain rfl := Option.some.inj h
    exact refHmac_all a0 a1 hd.1 hd.2 w
  · cases h
end Go.Proofs.Ytbafbpfpnfnikaa.Given
