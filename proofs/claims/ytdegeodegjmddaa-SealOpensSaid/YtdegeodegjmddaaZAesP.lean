/- AES in plain Lean: deciphering undoes enciphering, and the other way round. No program in sight. Conditions: blocks of 16 bytes. -/
import Derived.Test.YtdegeodegjmddaaZAesQ1
namespace Go.Proofs.Ytdegeodegjmddaa.Aes
open Go Go.RowKit Go.Proofs.Ytdegeodegjmddaa.Row Go.Proofs.Ytdegeodegjmddaa.Row.At
set_option linter.unusedVariables false
set_option linter.unusedSimpArgs false
set_option maxRecDepth 100000

theorem mk16_ext {s : List UInt8} (h : s.length = 16) (f : Nat → UInt8) (hf : ∀ j, j < 16 → f j = gb s j) : mk16 f = s := by
  refine ext8 (by rw [mk16_length, h]) fun j hj => ?_
  rw [mk16_length] at hj
  rw [mk16_at f j hj, hf j hj]
theorem with_with (s k : List UInt8) (h : s.length = 16) : withL (withL s k) k = s := by
  refine mk16_ext h _ fun j hj => ?_
  show gb (withL s k) j ^^^ gb k j = gb s j
  rw [withL, mk16_at _ j hj, withF, UInt8.xor_assoc, UInt8.xor_self, UInt8.xor_zero]
theorem rows_13 (s : List UInt8) (h : s.length = 16) : rowL (rowL s 1) 3 = s := by
  refine mk16_ext h _ fun j hj => ?_
  show gb (rowL s 1) (j % 4 + 4 * ((j / 4 + j % 4 * 3) % 4)) = gb s j
  rw [rowL, mk16_at _ _ (by omega), rowF]
  congr 1
  have key : ∀ j, j < 16 → (j % 4 + 4 * ((j / 4 + j % 4 * 3) % 4)) % 4 + 4 * (((j % 4 + 4 * ((j / 4 + j % 4 * 3) % 4)) / 4 + (j % 4 + 4 * ((j / 4 + j % 4 * 3) % 4)) % 4 * 1) % 4) = j := by decide
  exact key j hj
theorem rows_31 (s : List UInt8) (h : s.length = 16) : rowL (rowL s 3) 1 = s := by
  refine mk16_ext h _ fun j hj => ?_
  show gb (rowL s 3) (j % 4 + 4 * ((j / 4 + j % 4 * 1) % 4)) = gb s j
  rw [rowL, mk16_at _ _ (by omega), rowF]
  congr 1
  have key : ∀ j, j < 16 → (j % 4 + 4 * ((j / 4 + j % 4 * 1) % 4)) % 4 + 4 * (((j % 4 + 4 * ((j / 4 + j % 4 * 1) % 4)) / 4 + (j % 4 + 4 * ((j / 4 + j % 4 * 1) % 4)) % 4 * 3) % 4) = j := by decide
  exact key j hj
theorem swap_swap (s t u : List UInt8) (h : s.length = 16) (htu : ∀ b : UInt8, gb u (gb t b.toNat).toNat = b) : swapL (swapL s t) u = s := by
  refine mk16_ext h _ fun j hj => ?_
  show gb u (gb (swapL s t) j).toNat = gb s j
  rw [swapL, mk16_at _ j hj, swapF, htu]

/-! the columns -/
def xt (a : UInt8) : UInt8 := a <<< 1 ^^^ (a >>> 7) * 0x1b
theorem xt_xor_all : ∀ m : Nat, m < 256 → ∀ n : Nat, n < 256 → xt (UInt8.ofNat m ^^^ UInt8.ofNat n) = xt (UInt8.ofNat m) ^^^ xt (UInt8.ofNat n) := by decide +kernel
theorem xt_xor (a b : UInt8) : xt (a ^^^ b) = xt a ^^^ xt b := by
  have := xt_xor_all a.toNat a.toNat_lt b.toNat b.toNat_lt
  simpa only [UInt8.ofNat_toNat] using this
theorem xor4 (a b c d : UInt8) : (a ^^^ b) ^^^ (c ^^^ d) = (a ^^^ c) ^^^ (b ^^^ d) := by
  rw [UInt8.xor_assoc, UInt8.xor_assoc, ← UInt8.xor_assoc b c d, UInt8.xor_comm b c, UInt8.xor_assoc c b d]
theorem tm_xor : ∀ (n : Nat) (a a' b o o' : UInt8), tm n (a ^^^ a') b (o ^^^ o') = tm n a b o ^^^ tm n a' b o'
  | 0, _, _, _, _, _ => rfl
  | n + 1, a, a', b, o, o' => by
    have hx := xt_xor a a'
    have ih := tm_xor n (xt a) (xt a') (b >>> 1)
    by_cases h : b = 0
    · simp [tm, h]
    · by_cases h1 : b &&& 1 = 1
      · have e1 : tm (n + 1) (a ^^^ a') b (o ^^^ o') = tm n (xt (a ^^^ a')) (b >>> 1) ((o ^^^ o') ^^^ (a ^^^ a')) := by simp [tm, h, h1, xt]
        have e2 : tm (n + 1) a b o = tm n (xt a) (b >>> 1) (o ^^^ a) := by simp [tm, h, h1, xt]
        have e3 : tm (n + 1) a' b o' = tm n (xt a') (b >>> 1) (o' ^^^ a') := by simp [tm, h, h1, xt]
        rw [e1, e2, e3, hx, xor4, ih]
      · have e1 : tm (n + 1) (a ^^^ a') b (o ^^^ o') = tm n (xt (a ^^^ a')) (b >>> 1) (o ^^^ o') := by simp [tm, h, h1, xt]
        have e2 : tm (n + 1) a b o = tm n (xt a) (b >>> 1) o := by simp [tm, h, h1, xt]
        have e3 : tm (n + 1) a' b o' = tm n (xt a') (b >>> 1) o' := by simp [tm, h, h1, xt]
        rw [e1, e2, e3, hx, ih]
theorem times_xor (a a' b : UInt8) : times (a ^^^ a') b = times a b ^^^ times a' b := by
  have := tm_xor 8 a a' b 0 0
  simpa [times] using this
/-- one column's place, of the four bytes of the column -/
def col4 (f : Nat → UInt8) (by_ : List UInt8) (r : Nat) : UInt8 :=
  times (f 0) (gb by_ ((0 + 4 - r) % 4)) ^^^ times (f 1) (gb by_ ((1 + 4 - r) % 4)) ^^^ times (f 2) (gb by_ ((2 + 4 - r) % 4)) ^^^ times (f 3) (gb by_ ((3 + 4 - r) % 4))
theorem colF_eq (s by_ : List UInt8) (j : Nat) : colF s by_ j = col4 (fun k => gb s (4 * (j / 4) + k)) by_ (j % 4) := by
  simp [colF, colP, col4]
def encB : List UInt8 := [2, 3, 1, 1]
def decB : List UInt8 := [14, 11, 13, 9]
/-- a product of two products, summed up over the middle place: what the two matrices make of one byte -/
def mm (p q : List UInt8) (i r : Nat) (x : UInt8) : UInt8 :=
  times (times x (gb p ((i + 4 - 0) % 4))) (gb q ((0 + 4 - r) % 4)) ^^^ times (times x (gb p ((i + 4 - 1) % 4))) (gb q ((1 + 4 - r) % 4)) ^^^ times (times x (gb p ((i + 4 - 2) % 4))) (gb q ((2 + 4 - r) % 4)) ^^^ times (times x (gb p ((i + 4 - 3) % 4))) (gb q ((3 + 4 - r) % 4))
theorem mm_ed : ∀ i : Nat, i < 4 → ∀ r : Nat, r < 4 → ∀ n : Nat, n < 256 → mm encB decB i r (UInt8.ofNat n) = if i = r then UInt8.ofNat n else 0 := by decide +kernel
theorem mm_de : ∀ i : Nat, i < 4 → ∀ r : Nat, r < 4 → ∀ n : Nat, n < 256 → mm decB encB i r (UInt8.ofNat n) = if i = r then UInt8.ofNat n else 0 := by decide +kernel
theorem xor16 (a b c d e f g h i j k l m n o p : UInt8) :
    (a ^^^ b ^^^ c ^^^ d) ^^^ (e ^^^ f ^^^ g ^^^ h) ^^^ (i ^^^ j ^^^ k ^^^ l) ^^^ (m ^^^ n ^^^ o ^^^ p) =
    (a ^^^ e ^^^ i ^^^ m) ^^^ (b ^^^ f ^^^ j ^^^ n) ^^^ (c ^^^ g ^^^ k ^^^ o) ^^^ (d ^^^ h ^^^ l ^^^ p) := by
  ac_rfl
theorem col_col (f : Nat → UInt8) (p q : List UInt8) (r : Nat) :
    col4 (fun k => col4 f p k) q r = mm p q 0 r (f 0) ^^^ mm p q 1 r (f 1) ^^^ mm p q 2 r (f 2) ^^^ mm p q 3 r (f 3) := by
  simp only [col4, mm, times_xor]
  rw [xor16]
theorem col_inv (p q : List UInt8) (hm : ∀ i : Nat, i < 4 → ∀ r : Nat, r < 4 → ∀ n : Nat, n < 256 → mm p q i r (UInt8.ofNat n) = if i = r then UInt8.ofNat n else 0) (s : List UInt8) (h : s.length = 16) : colL (colL s p) q = s := by
  have hm' : ∀ i : Nat, i < 4 → ∀ r : Nat, r < 4 → ∀ x : UInt8, mm p q i r x = if i = r then x else 0 := by
    intro i hi r hr x
    have := hm i hi r hr x.toNat x.toNat_lt
    simpa only [UInt8.ofNat_toNat] using this
  refine mk16_ext h _ fun j hj => ?_
  rw [colF_eq]
  have e : ∀ k, k < 4 → gb (colL s p) (4 * (j / 4) + k) = col4 (fun k => gb s (4 * (j / 4) + k)) p k := by
    intro k hk
    rw [colL, mk16_at _ _ (by omega), colF_eq]
    rw [show (4 * (j / 4) + k) / 4 = j / 4 by omega, show (4 * (j / 4) + k) % 4 = k by omega]
  have e2 : col4 (fun k => gb (colL s p) (4 * (j / 4) + k)) q (j % 4) = col4 (fun k => col4 (fun k => gb s (4 * (j / 4) + k)) p k) q (j % 4) := by
    simp only [col4]
    rw [e 0 (by omega), e 1 (by omega), e 2 (by omega), e 3 (by omega)]
    simp only [col4]
  rw [e2, col_col, hm' 0 (by omega) _ (by omega), hm' 1 (by omega) _ (by omega), hm' 2 (by omega) _ (by omega), hm' 3 (by omega) _ (by omega)]
  have hr : j % 4 = 0 ∨ j % 4 = 1 ∨ j % 4 = 2 ∨ j % 4 = 3 := by omega
  have hj4 : 4 * (j / 4) + j % 4 = j := by omega
  rcases hr with hr | hr | hr | hr <;> rw [hr] at hj4 ⊢ <;> simp [hj4]
end Go.Proofs.Ytdegeodegjmddaa.Aes
