/- A hash by what was added to it: New, Add, Sum, Copy. Conditions: fewer than 2^47 bytes. The document's digest in plain words: the same as the program's. Conditions: as each theorem names them. The document's turns, by each number that the digest uses. Conditions: none. The contract of hamperref07.Roots: the roots' bits lie in two rows of the call's own. Conditions: none. -/
import Derived.Test.YtdegeodegjmddaaZShaQ2
import Derived.Test.YtdegeodegjmddaaZRooC
import Derived.Test.YtdegeodegjmddaaZOwnQ
set_option linter.unusedVariables false
set_option linter.unusedSimpArgs false
namespace Go.Proofs.Ytdegeodegjmddaa.Given
open Go.RowKit Go.Proofs.YtdegeodegjmddaaW.PrintWords Go.Proofs.YtdegeodegjmddaaW.PrintLast Go.Proofs.YtdegeodegjmddaaW.PrintMore
open Go.Proofs.Ytdegeodegjmddaa.Row Go.Proofs.Ytdegeodegjmddaa.Row.At
set_option maxRecDepth 100000
set_option linter.unusedVariables false
set_option linter.unusedSimpArgs false
theorem gb_app (a b : List UInt8) (j : Nat) (h : j < a.length) : gb (a ++ b) j = gb a j := by
  simp only [gb, List.getD_eq_getElem?_getD, List.getElem?_append_left h]
theorem wRow_app (a b : List UInt8) (h : 64 ≤ a.length) : ∀ i, wRow (a ++ b) i = wRow a i
  | 0 => rfl
  | i + 1 => by
    rw [wRow, wRow, wRow_app a b h i]
    by_cases hi : i < 16
    · rw [if_pos hi, if_pos hi, wordOf, wordOf, gb_app _ _ _ (by omega), gb_app _ _ _ (by omega), gb_app _ _ _ (by omega), gb_app _ _ _ (by omega)]
    · rw [if_neg hi, if_neg hi]
theorem go64S_app (s : List UInt32) (a b : List UInt8) (h : 64 ≤ a.length) : go64S s (a ++ b) = go64S s a := by
  rw [go64S, go64S, wRow_app a b h]
theorem app_extract (r y : ByteArray) (h : 64 ≤ r.size) : (r ++ y).extract 64 (r ++ y).size = r.extract 64 r.size ++ y := by
  apply ByteArray.ext
  apply Array.toList_inj.1
  have hl : 64 ≤ r.data.toList.length := h
  have e1 : (r ++ y).data.toList = r.data.toList ++ y.data.toList := by simp
  have e2 : (r.extract 64 r.size ++ y).data.toList = (r.extract 64 r.size).data.toList ++ y.data.toList := by simp
  have e3 : ∀ (x : ByteArray), (x.extract 64 x.size).data.toList = x.data.toList.drop 64 := fun x => by
    rw [ByteArray.data_extract, Array.toList_extract, List.extract_eq_take_drop]
    rw [List.take_of_length_le]
    rw [List.length_drop]
    exact Nat.le_refl _
  rw [e3, e2, e3, e1, List.drop_append_of_le_length hl]
theorem eat_app (y : ByteArray) : ∀ n s r, n * 64 ≤ r.size → eat n s (r ++ y) = ((eat n s r).1, (eat n s r).2 ++ y)
  | 0, s, r, h => rfl
  | n + 1, s, r, h => by
    have h1 : 64 ≤ r.size := by omega
    have h2 : 64 ≤ (r ++ y).size := by rw [ByteArray.size_append]; omega
    have e1 : (r ++ y).data.toList = r.data.toList ++ y.data.toList := by simp
    rw [eat, eat, if_pos h1, if_pos h2, app_extract r y h1, e1, go64S_app _ _ _ h1]
    exact eat_app y n _ _ (by rw [ByteArray.size_extract]; omega)
theorem eat_add : ∀ a b s r, a * 64 ≤ r.size → eat (a + b) s r = eat b (eat a s r).1 (eat a s r).2
  | 0, b, s, r, h => by rw [Nat.zero_add]; rfl
  | a + 1, b, s, r, h => by
    have h1 : 64 ≤ r.size := by omega
    rw [Nat.succ_add, eat, if_pos h1]
    conv => rhs; rw [eat, if_pos h1]
    exact eat_add a b _ _ (by rw [ByteArray.size_extract]; omega)
/-- what a hash holds that has eaten these bytes -/
def ate (x : ByteArray) : List UInt32 × ByteArray := eat (x.size / 64) H0 x
theorem ate_rest (x : ByteArray) : (ate x).2.size = x.size % 64 := (eat_rest _ H0 x rfl).2
theorem ate_state (x : ByteArray) : (ate x).1.length = 8 := eat_length _ _ _ rfl
theorem ate_app (x y : ByteArray) : eat (((ate x).2 ++ y).size / 64) (ate x).1 ((ate x).2 ++ y) = ate (x ++ y) := by
  have hr := ate_rest x
  have e : (x ++ y).size / 64 = x.size / 64 + ((ate x).2 ++ y).size / 64 := by
    rw [ByteArray.size_append, ByteArray.size_append, hr]
    omega
  have h1 : x.size / 64 * 64 ≤ x.size := by omega
  show _ = eat ((x ++ y).size / 64) H0 (x ++ y)
  rw [e, eat_add _ _ _ _ (by rw [ByteArray.size_append]; omega), eat_app y _ _ _ h1]
  rfl
/-- A hash that has eaten these bytes. -/
def Ate (w : World) (g : Nat) (x : ByteArray) : Prop := At w g 113 (hCells (ate x).1 (ate x).2 x.size KK)
theorem Ate.lt {w : World} {g : Nat} {x : ByteArray} (h : Ate w g x) : g < w.heap.size := At.lt h
theorem Ate.go {w w' : World} {g : Nat} {x : ByteArray} (h : Ate w g x) (hb : Below w.heap.size w w') : Ate w' g x := at_go1 h hb
theorem Ate.gr {w w' : World} {g k : Nat} {x : ByteArray} (h : Ate w g x) (hg : Gr k w w') (hk : g ≠ k) : Ate w' g x := hg.at_ h hk
theorem ate_empty : (ate ⟨#[]⟩) = (H0, ⟨#[]⟩) := rfl
theorem new_ate (w : World) : Calls Try.prog 79 #[] w fun e w' => e = .returned (.pointer (some ⟨w.heap.size, 0, none⟩)) ∧ Ate w' w.heap.size ⟨#[]⟩ ∧ Below w.heap.size w w' := shaNew_any w
theorem add_ate (x y : ByteArray) (hb : x.size + y.size ≤ 140737488355000) (g : Nat) (w : World) (h : Ate w g x) :
    Calls Try.prog 80 #[.pointer (some ⟨g, 0, none⟩), .string y] w fun e w' => e = .returned (.int .i64 0) ∧ Ate w' g (x ++ y) ∧ Gr g w w' := by
  have hr := ate_rest x
  have := shaAdd_any (ate x).1 (ate x).2 y x.size (ate_state x) (by omega) (by omega) g w h
  rw [ate_app] at this
  refine this.mono fun e w' ⟨h1, h2, h3⟩ => ⟨h1, ?_, h3⟩
  unfold Ate
  rw [ByteArray.size_append]
  exact h2
theorem sum_ate (x : ByteArray) (hb : x.size ≤ 140737488355000) (g : Nat) (w : World) (h : Ate w g x) :
    Calls Try.prog 81 #[.pointer (some ⟨g, 0, none⟩)] w fun e w' => e = .returned (.string (shaW x)) ∧ Below w.heap.size w w' :=
  shaSum_any (ate x).1 (ate x).2 x.size (ate_state x) (by rw [ate_rest]; omega) (by omega) g w h
end Go.Proofs.Ytdegeodegjmddaa.Given

namespace Go.Proofs.Ytdegeodegjmddaa.Given
open Go.RowKit
open Go.Proofs.Ytdegeodegjmddaa.Row
set_option maxRecDepth 100000
set_option linter.unusedVariables false
set_option linter.unusedSimpArgs false
def to32 (l : List Int) : List UInt32 := l.map fun x => UInt32.ofNat x.toNat
theorem u32s_to32 (l : List Int) (h : ∀ x ∈ l, 0 ≤ x ∧ x < 4294967296) : u32s (to32 l) = l.map (Value.int .u32) := by
  unfold u32s to32
  rw [List.map_map]
  refine List.map_congr_left fun x hx => ?_
  have := h x hx
  show Value.int .u32 ((UInt32.ofNat x.toNat).toNat : Int) = _
  rw [UInt32.toNat_ofNat']
  congr 1
  omega
def SQ32 : List UInt32 := to32 Roo.SQ
theorem SQ_cells : u32s SQ32 = Roo.SQ.map (Value.int .u32) := u32s_to32 _ (by decide)
theorem CU_cells : u32s KK = Roo.CU.map (Value.int .u32) := by
  have e : KK = to32 Roo.CU := by decide +kernel
  rw [e]
  exact u32s_to32 _ (by decide)
theorem SQ32_take : SQ32.take 8 = H0 := by decide +kernel
theorem SQ32_length : SQ32.length = 64 := by decide +kernel
theorem Row.Own.of_ownsRow {w : World} {B : Nat} {e : TypeId} {v : Value} {n : Nat} {xs : List Value} (h : w.ownsRow B e 1 v n xs) : Row.Own w B e v xs := by
  have hl : xs.length = n := by have := h.1; omega
  subst hl
  rcases h.2 with ⟨h1, h2⟩ | ⟨g, cap, cur, h1, h2, h3, h4, h5, h6, h7⟩
  · exact .inl ⟨h1, by simpa using h2⟩
  · exact .inr ⟨g, cap, cur, (0, 0), h1, h2, h3, .inr rfl, h4, h5, by simpa using h6, by simpa using h7⟩
/-- The words of a piece, one behind the other. -/
def refW (b : List UInt8) : Nat → List UInt32
  | 0 => []
  | i + 1 => refW b i ++ [if i < 16 then wordOf b i else wNext (refW b i) i]
theorem refW_length (b : List UInt8) : ∀ i, (refW b i).length = i
  | 0 => rfl
  | i + 1 => by rw [refW, List.length_append, refW_length b i]; rfl
theorem gw_take (l : List UInt32) (i j : Nat) (h : j < i) : gw (l.take i) j = gw l j := by
  simp only [gw, List.getD_eq_getElem?_getD, List.getElem?_take, h, if_true]
theorem refW_take (b : List UInt8) : ∀ i, i ≤ 64 → refW b i = (wRow b i).take i
  | 0, _ => by simp [refW]
  | i + 1, h => by
    have ih := refW_take b i (by omega)
    have hl := wRow_length b i
    have hv : (if i < 16 then wordOf b i else wNext (refW b i) i) = (if i < 16 then wordOf b i else wNext (wRow b i) i) := by
      by_cases h16 : i < 16
      · rw [if_pos h16, if_pos h16]
      · rw [if_neg h16, if_neg h16, ih]
        unfold wNext
        rw [gw_take _ _ _ (by omega), gw_take _ _ _ (by omega), gw_take _ _ _ (by omega), gw_take _ _ _ (by omega)]
    rw [refW, hv, ih, wRow]
    generalize (if i < 16 then wordOf b i else wNext (wRow b i) i) = v
    apply List.ext_getElem?
    intro j
    simp only [List.getElem?_take, List.getElem?_append, List.length_take, hl, List.getElem?_set]
    by_cases h1 : j < i
    · rw [if_pos (by omega), if_pos h1, if_pos (by omega), if_neg (by omega)]
    · by_cases h2 : j = i
      · subst h2
        rw [if_neg (by omega), if_pos (by omega), if_pos rfl, if_pos (by omega)]
        simp [show min j 64 = j by omega]
      · rw [if_neg (by omega), if_neg (by omega)]
        rw [List.getElem?_eq_none]
        simp
        omega
theorem refW_64 (b : List UInt8) : refW b 64 = wRow b 64 := by
  rw [refW_take b 64 (Nat.le_refl _), List.take_of_length_le (by rw [wRow_length]; exact Nat.le_refl _)]
/-- The state behind so many pieces. -/
def stR (s : List UInt32) (L : List UInt8) : Nat → List UInt32
  | 0 => s
  | j + 1 => go64S (stR s L j) (L.drop (64 * j))
theorem stR_length (s : List UInt32) (L : List UInt8) (h : s.length = 8) : ∀ j, (stR s L j).length = 8
  | 0 => h
  | j + 1 => go64S_length _ _ (stR_length s L h j)
theorem stR_shift (s : List UInt32) (L : List UInt8) : ∀ n, stR s L (n + 1) = stR (go64S s L) (L.drop 64) n
  | 0 => by simp [stR]
  | n + 1 => by
    rw [stR, stR_shift s L n, stR, List.drop_drop]
    congr 2
    omega
theorem eat_stR : ∀ n s (r : ByteArray), n * 64 ≤ r.size → (eat n s r).1 = stR s r.data.toList n
  | 0, s, r, h => rfl
  | n + 1, s, r, h => by
    have h1 : 64 ≤ r.size := by omega
    have hl : r.data.toList.length = r.size := Array.length_toList
    have e3 : (r.extract 64 r.size).data.toList = r.data.toList.drop 64 := by
      rw [ByteArray.data_extract, Array.toList_extract, List.extract_eq_take_drop]
      rw [List.take_of_length_le]
      rw [List.length_drop, hl]
      exact Nat.le_refl _
    rw [eat, if_pos h1, eat_stR n _ _ (by rw [ByteArray.size_extract]; omega), e3, stR_shift]
theorem repeatL_zero : ∀ z, Lib.repeatL [(0 : UInt8)] z = List.replicate z 0
  | 0 => rfl
  | z + 1 => by rw [Lib.repeatL, repeatL_zero z, List.replicate_succ]; rfl
/-- What is gone through: the bytes, one byte 128, noughts, how many bits there were. -/
def zN (n : Nat) : Nat := noughts (n % 64)
def padded (x : List UInt8) : List UInt8 := x ++ [128] ++ List.replicate (zN x.length) 0 ++ bytesL (8 * x.length) 8
theorem zN_mod (n : Nat) : (n + 1 + zN n) % 64 = 56 := by unfold zN noughts; omega
theorem zN_lt (n : Nat) : zN n < 64 := by unfold zN noughts; omega
theorem zN_least (n m : Nat) (h : m < zN n) : (n + 1 + m) % 64 ≠ 56 := by
  have := zN_mod n
  have := zN_lt n
  omega
theorem padded_length (x : List UInt8) : (padded x).length = x.length + 1 + zN x.length + 8 := by simp [padded, bytesL_length]; omega
theorem padded_mod (x : List UInt8) : (padded x).length % 64 = 0 := by rw [padded_length]; have := zN_mod x.length; omega
theorem shaW_padded (x : ByteArray) : shaW x = outW (stR H0 (padded x.data.toList) ((padded x.data.toList).length / 64)) 8 := by
  have hl : x.data.toList.length = x.size := Array.length_toList
  have hr := ate_rest x
  have e1 : (x ++ tailW (x.size % 64) x.size).data.toList = padded x.data.toList := by
    simp only [tailW, ByteArray.data_append, Array.toList_append, repeatL_zero, padded, hl, zN]
    simp only [List.append_assoc]
  have e2 : (padded x.data.toList).length = (x ++ tailW (x.size % 64) x.size).size := by rw [← e1, Array.length_toList]; rfl
  have h1 : shaW x = sumW (ate x).1 (ate x).2 x.size := rfl
  rw [h1, sumW, lastS, hr, ate_app x (tailW (x.size % 64) x.size)]
  rw [e2, ← e1]
  show outW (eat _ H0 _).1 8 = _
  rw [eat_stR _ _ _ (by omega)]
/-- The digest's bytes, as they come. -/
def outL (s : List UInt32) (i : Nat) : List UInt8 := (List.range i).flatMap fun j => bytesL (gw s j).toNat 4
theorem outL_succ (s : List UInt32) (i : Nat) : outL s (i + 1) = outL s i ++ bytesL (gw s i).toNat 4 := by simp [outL, List.range_succ, List.flatMap_append]
theorem outL_length (s : List UInt32) (i : Nat) : (outL s i).length = 4 * i := by
  induction i with
  | zero => rfl
  | succ i ih => rw [outL_succ, List.length_append, ih, bytesL_length]; omega
theorem outW_outL (s : List UInt32) (i : Nat) : outW s i = ⟨(outL s i).toArray⟩ := rfl
theorem word_nat (b : List UInt8) (i : Nat) : (wordOf b i).toNat = (gb b (4 * i)).toNat * 16777216 + (gb b (4 * i + 1)).toNat * 65536 + (gb b (4 * i + 2)).toNat * 256 + (gb b (4 * i + 3)).toNat := by
  have h0 := (gb b (4 * i)).toNat_lt
  have h1 := (gb b (4 * i + 1)).toNat_lt
  have h2 := (gb b (4 * i + 2)).toNat_lt
  have h3 := (gb b (4 * i + 3)).toNat_lt
  unfold wordOf
  simp only [UInt32.toNat_or, UInt32.toNat_shiftLeft, UInt8.toNat_toUInt32]
  generalize (gb b (4 * i)).toNat = p at *
  generalize (gb b (4 * i + 1)).toNat = q at *
  generalize (gb b (4 * i + 2)).toNat = r at *
  generalize (gb b (4 * i + 3)).toNat = s at *
  have e1 : p <<< ((24 : UInt32).toNat % 32) % 2 ^ 32 = p <<< 24 := by
    rw [show (24 : UInt32).toNat % 32 = 24 from rfl, Nat.shiftLeft_eq]; omega
  have e2 : q <<< ((16 : UInt32).toNat % 32) % 2 ^ 32 = q <<< 16 := by
    rw [show (16 : UInt32).toNat % 32 = 16 from rfl, Nat.shiftLeft_eq]; omega
  have e3 : r <<< ((8 : UInt32).toNat % 32) % 2 ^ 32 = r <<< 8 := by
    rw [show (8 : UInt32).toNat % 32 = 8 from rfl, Nat.shiftLeft_eq]; omega
  rw [e1, e2, e3]
  have f1 : p <<< 24 ||| q <<< 16 = p <<< 24 + q <<< 16 := (Nat.shiftLeft_add_eq_or_of_lt (by rw [Nat.shiftLeft_eq]; omega) p).symm
  have f2 : p <<< 24 + q <<< 16 = (p * 256 + q) <<< 16 := by simp only [Nat.shiftLeft_eq]; omega
  have f3 : (p * 256 + q) <<< 16 ||| r <<< 8 = (p * 256 + q) <<< 16 + r <<< 8 := (Nat.shiftLeft_add_eq_or_of_lt (by rw [Nat.shiftLeft_eq]; omega) _).symm
  have f4 : (p * 256 + q) <<< 16 + r <<< 8 = ((p * 256 + q) * 256 + r) <<< 8 := by simp only [Nat.shiftLeft_eq]; omega
  have f5 : ((p * 256 + q) * 256 + r) <<< 8 ||| s = ((p * 256 + q) * 256 + r) <<< 8 + s := (Nat.shiftLeft_add_eq_or_of_lt (by omega) _).symm
  rw [f1, f2, f3, f4, f5, Nat.shiftLeft_eq]
  omega
theorem gb_drop (l : List UInt8) (q j : Nat) : gb (l.drop q) j = gb l (q + j) := by
  simp only [gb, List.getD_eq_getElem?_getD, List.getElem?_drop]
theorem word_cells (PL : List UInt8) (q i p : Nat) (hp : p = q + 4 * i) :
    ((((((gb PL p).toNat : Int) % 4294967296 * 16777216 % 4294967296 + ((gb PL (p + 1)).toNat : Int) % 4294967296 * 65536 % 4294967296) % 4294967296 + ((gb PL (p + 2)).toNat : Int) % 4294967296 * 256 % 4294967296) % 4294967296 + ((gb PL (p + 3)).toNat : Int) % 4294967296) % 4294967296) = ((wordOf (PL.drop q) i).toNat : Int) := by
  rw [word_nat, gb_drop, gb_drop, gb_drop, gb_drop, ← Nat.add_assoc, ← Nat.add_assoc, ← Nat.add_assoc, ← hp]
  have h0 := (gb PL p).toNat_lt
  have h1 := (gb PL (p + 1)).toNat_lt
  have h2 := (gb PL (p + 2)).toNat_lt
  have h3 := (gb PL (p + 3)).toNat_lt
  omega
theorem next_cells (r : List UInt32) (i : Nat) (a b x y : UInt32) (h : wNext r i = a + b + x + y) :
    (((((a.toNat : Int) + (x.toNat : Int)) % 4294967296 + (b.toNat : Int)) % 4294967296 + (y.toNat : Int)) % 4294967296) = ((wNext r i).toNat : Int) := by
  rw [h, UInt32.toNat_add, UInt32.toNat_add, UInt32.toNat_add]
  omega
end Go.Proofs.Ytdegeodegjmddaa.Given

namespace Go.Proofs.Ytdegeodegjmddaa.Given
open Go.RowKit
open Go.Proofs.Ytdegeodegjmddaa.Row
set_option maxRecDepth 100000
set_option linter.unusedVariables false
set_option linter.unusedSimpArgs false
theorem turn_7 (x : UInt32) (w : World) : Calls Try.prog 83 #[.int .u32 x.toNat, .int .u32 7] w fun e w' => e = .returned (.int .u32 (rotr x 7).toNat) ∧ w' = w := by
  go_enter Try.func83, Try.ntmps83
  go_wp2
  go_ret
  refine ⟨?_, rfl⟩
  have e1 : ((x.toNat : Int) * (33554432 : Int) % (4294967296 : Int)) = (((x <<< (32 - 7)).toNat : Nat) : Int) := by
    rw [show (32 - 7 : UInt32) = 25 from by decide, UInt32.toNat_shiftLeft, Nat.shiftLeft_eq]
    simp
  have e2 : ((x.toNat : Int) / (128 : Int)) = (((x >>> 7).toNat : Nat) : Int) := by
    rw [UInt32.toNat_shiftRight, Nat.shiftRight_eq_div_pow]
    simp
  show Ending.returned (Value.int .u32 (bits .or .u32 ((x.toNat : Int) / (128 : Int)) ((x.toNat : Int) * (33554432 : Int) % (4294967296 : Int)))) = _
  rw [e1, e2, u32or, UInt32.or_comm]
  rfl
theorem turn_18 (x : UInt32) (w : World) : Calls Try.prog 83 #[.int .u32 x.toNat, .int .u32 18] w fun e w' => e = .returned (.int .u32 (rotr x 18).toNat) ∧ w' = w := by
  go_enter Try.func83, Try.ntmps83
  go_wp2
  go_ret
  refine ⟨?_, rfl⟩
  have e1 : ((x.toNat : Int) * (16384 : Int) % (4294967296 : Int)) = (((x <<< (32 - 18)).toNat : Nat) : Int) := by
    rw [show (32 - 18 : UInt32) = 14 from by decide, UInt32.toNat_shiftLeft, Nat.shiftLeft_eq]
    simp
  have e2 : ((x.toNat : Int) / (262144 : Int)) = (((x >>> 18).toNat : Nat) : Int) := by
    rw [UInt32.toNat_shiftRight, Nat.shiftRight_eq_div_pow]
    simp
  show Ending.returned (Value.int .u32 (bits .or .u32 ((x.toNat : Int) / (262144 : Int)) ((x.toNat : Int) * (16384 : Int) % (4294967296 : Int)))) = _
  rw [e1, e2, u32or, UInt32.or_comm]
  rfl
theorem turn_17 (x : UInt32) (w : World) : Calls Try.prog 83 #[.int .u32 x.toNat, .int .u32 17] w fun e w' => e = .returned (.int .u32 (rotr x 17).toNat) ∧ w' = w := by
  go_enter Try.func83, Try.ntmps83
  go_wp2
  go_ret
  refine ⟨?_, rfl⟩
  have e1 : ((x.toNat : Int) * (32768 : Int) % (4294967296 : Int)) = (((x <<< (32 - 17)).toNat : Nat) : Int) := by
    rw [show (32 - 17 : UInt32) = 15 from by decide, UInt32.toNat_shiftLeft, Nat.shiftLeft_eq]
    simp
  have e2 : ((x.toNat : Int) / (131072 : Int)) = (((x >>> 17).toNat : Nat) : Int) := by
    rw [UInt32.toNat_shiftRight, Nat.shiftRight_eq_div_pow]
    simp
  show Ending.returned (Value.int .u32 (bits .or .u32 ((x.toNat : Int) / (131072 : Int)) ((x.toNat : Int) * (32768 : Int) % (4294967296 : Int)))) = _
  rw [e1, e2, u32or, UInt32.or_comm]
  rfl
theorem turn_19 (x : UInt32) (w : World) : Calls Try.prog 83 #[.int .u32 x.toNat, .int .u32 19] w fun e w' => e = .returned (.int .u32 (rotr x 19).toNat) ∧ w' = w := by
  go_enter Try.func83, Try.ntmps83
  go_wp2
  go_ret
  refine ⟨?_, rfl⟩
  have e1 : ((x.toNat : Int) * (8192 : Int) % (4294967296 : Int)) = (((x <<< (32 - 19)).toNat : Nat) : Int) := by
    rw [show (32 - 19 : UInt32) = 13 from by decide, UInt32.toNat_shiftLeft, Nat.shiftLeft_eq]
    simp
  have e2 : ((x.toNat : Int) / (524288 : Int)) = (((x >>> 19).toNat : Nat) : Int) := by
    rw [UInt32.toNat_shiftRight, Nat.shiftRight_eq_div_pow]
    simp
  show Ending.returned (Value.int .u32 (bits .or .u32 ((x.toNat : Int) / (524288 : Int)) ((x.toNat : Int) * (8192 : Int) % (4294967296 : Int)))) = _
  rw [e1, e2, u32or, UInt32.or_comm]
  rfl
theorem turn_6 (x : UInt32) (w : World) : Calls Try.prog 83 #[.int .u32 x.toNat, .int .u32 6] w fun e w' => e = .returned (.int .u32 (rotr x 6).toNat) ∧ w' = w := by
  go_enter Try.func83, Try.ntmps83
  go_wp2
  go_ret
  refine ⟨?_, rfl⟩
  have e1 : ((x.toNat : Int) * (67108864 : Int) % (4294967296 : Int)) = (((x <<< (32 - 6)).toNat : Nat) : Int) := by
    rw [show (32 - 6 : UInt32) = 26 from by decide, UInt32.toNat_shiftLeft, Nat.shiftLeft_eq]
    simp
  have e2 : ((x.toNat : Int) / (64 : Int)) = (((x >>> 6).toNat : Nat) : Int) := by
    rw [UInt32.toNat_shiftRight, Nat.shiftRight_eq_div_pow]
    simp
  show Ending.returned (Value.int .u32 (bits .or .u32 ((x.toNat : Int) / (64 : Int)) ((x.toNat : Int) * (67108864 : Int) % (4294967296 : Int)))) = _
  rw [e1, e2, u32or, UInt32.or_comm]
  rfl
theorem turn_11 (x : UInt32) (w : World) : Calls Try.prog 83 #[.int .u32 x.toNat, .int .u32 11] w fun e w' => e = .returned (.int .u32 (rotr x 11).toNat) ∧ w' = w := by
  go_enter Try.func83, Try.ntmps83
  go_wp2
  go_ret
  refine ⟨?_, rfl⟩
  have e1 : ((x.toNat : Int) * (2097152 : Int) % (4294967296 : Int)) = (((x <<< (32 - 11)).toNat : Nat) : Int) := by
    rw [show (32 - 11 : UInt32) = 21 from by decide, UInt32.toNat_shiftLeft, Nat.shiftLeft_eq]
    simp
  have e2 : ((x.toNat : Int) / (2048 : Int)) = (((x >>> 11).toNat : Nat) : Int) := by
    rw [UInt32.toNat_shiftRight, Nat.shiftRight_eq_div_pow]
    simp
  show Ending.returned (Value.int .u32 (bits .or .u32 ((x.toNat : Int) / (2048 : Int)) ((x.toNat : Int) * (2097152 : Int) % (4294967296 : Int)))) = _
  rw [e1, e2, u32or, UInt32.or_comm]
  rfl
theorem turn_25 (x : UInt32) (w : World) : Calls Try.prog 83 #[.int .u32 x.toNat, .int .u32 25] w fun e w' => e = .returned (.int .u32 (rotr x 25).toNat) ∧ w' = w := by
  go_enter Try.func83, Try.ntmps83
  go_wp2
  go_ret
  refine ⟨?_, rfl⟩
  have e1 : ((x.toNat : Int) * (128 : Int) % (4294967296 : Int)) = (((x <<< (32 - 25)).toNat : Nat) : Int) := by
    rw [show (32 - 25 : UInt32) = 7 from by decide, UInt32.toNat_shiftLeft, Nat.shiftLeft_eq]
    simp
  have e2 : ((x.toNat : Int) / (33554432 : Int)) = (((x >>> 25).toNat : Nat) : Int) := by
    rw [UInt32.toNat_shiftRight, Nat.shiftRight_eq_div_pow]
    simp
  show Ending.returned (Value.int .u32 (bits .or .u32 ((x.toNat : Int) / (33554432 : Int)) ((x.toNat : Int) * (128 : Int) % (4294967296 : Int)))) = _
  rw [e1, e2, u32or, UInt32.or_comm]
  rfl
theorem turn_2 (x : UInt32) (w : World) : Calls Try.prog 83 #[.int .u32 x.toNat, .int .u32 2] w fun e w' => e = .returned (.int .u32 (rotr x 2).toNat) ∧ w' = w := by
  go_enter Try.func83, Try.ntmps83
  go_wp2
  go_ret
  refine ⟨?_, rfl⟩
  have e1 : ((x.toNat : Int) * (1073741824 : Int) % (4294967296 : Int)) = (((x <<< (32 - 2)).toNat : Nat) : Int) := by
    rw [show (32 - 2 : UInt32) = 30 from by decide, UInt32.toNat_shiftLeft, Nat.shiftLeft_eq]
    simp
  have e2 : ((x.toNat : Int) / (4 : Int)) = (((x >>> 2).toNat : Nat) : Int) := by
    rw [UInt32.toNat_shiftRight, Nat.shiftRight_eq_div_pow]
    simp
  show Ending.returned (Value.int .u32 (bits .or .u32 ((x.toNat : Int) / (4 : Int)) ((x.toNat : Int) * (1073741824 : Int) % (4294967296 : Int)))) = _
  rw [e1, e2, u32or, UInt32.or_comm]
  rfl
theorem turn_13 (x : UInt32) (w : World) : Calls Try.prog 83 #[.int .u32 x.toNat, .int .u32 13] w fun e w' => e = .returned (.int .u32 (rotr x 13).toNat) ∧ w' = w := by
  go_enter Try.func83, Try.ntmps83
  go_wp2
  go_ret
  refine ⟨?_, rfl⟩
  have e1 : ((x.toNat : Int) * (524288 : Int) % (4294967296 : Int)) = (((x <<< (32 - 13)).toNat : Nat) : Int) := by
    rw [show (32 - 13 : UInt32) = 19 from by decide, UInt32.toNat_shiftLeft, Nat.shiftLeft_eq]
    simp
  have e2 : ((x.toNat : Int) / (8192 : Int)) = (((x >>> 13).toNat : Nat) : Int) := by
    rw [UInt32.toNat_shiftRight, Nat.shiftRight_eq_div_pow]
    simp
  show Ending.returned (Value.int .u32 (bits .or .u32 ((x.toNat : Int) / (8192 : Int)) ((x.toNat : Int) * (524288 : Int) % (4294967296 : Int)))) = _
  rw [e1, e2, u32or, UInt32.or_comm]
  rfl
theorem turn_22 (x : UInt32) (w : World) : Calls Try.prog 83 #[.int .u32 x.toNat, .int .u32 22] w fun e w' => e = .returned (.int .u32 (rotr x 22).toNat) ∧ w' = w := by
  go_enter Try.func83, Try.ntmps83
  go_wp2
  go_ret
  refine ⟨?_, rfl⟩
  have e1 : ((x.toNat : Int) * (1024 : Int) % (4294967296 : Int)) = (((x <<< (32 - 22)).toNat : Nat) : Int) := by
    rw [show (32 - 22 : UInt32) = 10 from by decide, UInt32.toNat_shiftLeft, Nat.shiftLeft_eq]
    simp
  have e2 : ((x.toNat : Int) / (4194304 : Int)) = (((x >>> 22).toNat : Nat) : Int) := by
    rw [UInt32.toNat_shiftRight, Nat.shiftRight_eq_div_pow]
    simp
  show Ending.returned (Value.int .u32 (bits .or .u32 ((x.toNat : Int) / (4194304 : Int)) ((x.toNat : Int) * (1024 : Int) % (4294967296 : Int)))) = _
  rw [e1, e2, u32or, UInt32.or_comm]
  rfl
end Go.Proofs.Ytdegeodegjmddaa.Given

namespace Go.Proofs.Ytdegeodegjmddaa.Given
open Go.RowKit Go.Proofs.YtdegeodegjmddaaW.PrintWords
open Go.Proofs.Ytdegeodegjmddaa.Row
set_option maxRecDepth 100000
theorem roots_any (w : World) :
    Calls Try.prog 82 #[] w fun e w' => ∃ gs cs gc cc, e = .returned (.tuple #[.slice (some ⟨gs, 0, none⟩) 64 cs, .slice (some ⟨gc, 0, none⟩) 64 cc]) ∧
      Row.Own w' w.heap.size 101 (.slice (some ⟨gs, 0, none⟩) 64 cs) (u32s SQ32) ∧ Row.Own w' w.heap.size 101 (.slice (some ⟨gc, 0, none⟩) 64 cc) (u32s KK) ∧ Below w.heap.size w w' := by
  obtain ⟨k, hk⟩ := Roo.roots_f
  refine (PRoo.hamperref07_Roots.calls k _ _ w hk).mono ?_
  rintro e w' ⟨v0, v1, rfl, h0, h1, hb⟩
  have o0 := Row.Own.of_ownsRow (Kd.own_of_R h0)
  have o1 := Row.Own.of_ownsRow (Kd.own_of_R h1)
  have e0 : encs (Value.int IntKind.u32) Roo.SQ = u32s SQ32 := SQ_cells.symm
  have e1 : encs (Value.int IntKind.u32) Roo.CU = u32s KK := CU_cells.symm
  rw [e0] at o0
  rw [e1] at o1
  have l0 : (u32s SQ32).length = 64 := by rw [u32s, List.length_map, SQ32_length]
  have l1 : (u32s KK).length = 64 := by rw [u32s, List.length_map]; rfl
  obtain ⟨gs, cs, rfl, _, _⟩ := o0.form l0 (by decide)
  obtain ⟨gc, cc, rfl, _, _⟩ := o1.form l1 (by decide)
  exact ⟨gs, cs, gc, cc, rfl, o0, o1, hb⟩
end Go.Proofs.Ytdegeodegjmddaa.Given
