/- AES in plain Lean, on bytes: what the program's functions compute. No program in sight. Conditions: none. -/
import Derived.Test.YtfbcgpgpfpnpnaaRow
namespace Go.Proofs.Ytfbcgpgpfpnpnaa.Aes
open Go Go.RowKit Go.Proofs.Ytfbcgpgpfpnpnaa.Row
set_option maxRecDepth 100000
set_option linter.unusedVariables false
set_option linter.unusedSimpArgs false

/-- 16 bytes by their places. -/
def mk16 (f : Nat → UInt8) : List UInt8 := (List.range 16).map f
@[simp] theorem mk16_length (f : Nat → UInt8) : (mk16 f).length = 16 := by simp [mk16]
theorem mk16_at (f : Nat → UInt8) (j : Nat) (h : j < 16) : gb (mk16 f) j = f j := by
  simp [mk16, gb, List.getD_eq_getElem?_getD, h]
/-- What a loop over the 16 places has made so far: new ones below i, the old ones from there on. -/
def Part (f : Nat → UInt8) (s : List UInt8) (i : Nat) (l : List UInt8) : Prop := l.length = 16 ∧ ∀ j, j < 16 → gb l j = if j < i then f j else gb s j
theorem Part.start (f : Nat → UInt8) {s : List UInt8} (h : s.length = 16) : Part f s 0 s := ⟨h, by simp⟩
theorem gb_set (l : List UInt8) (i j : Nat) (b : UInt8) (h : i < l.length) : gb (l.set i b) j = if i = j then b else gb l j := by
  by_cases e : i = j
  · subst e; simp [gb, List.getD_eq_getElem?_getD, h]
  · simp [gb, List.getD_eq_getElem?_getD, e]
theorem Part.next {f : Nat → UInt8} {s l : List UInt8} {i : Nat} (h : Part f s i l) (hi : i < 16) {b : UInt8} (hb : b = f i) : Part f s (i + 1) (l.set i b) := by
  refine ⟨by simp [h.1], fun j hj => ?_⟩
  rw [gb_set _ _ _ _ (by rw [h.1]; exact hi)]
  by_cases e : i = j
  · subst e; simp [hb]
  · rw [if_neg e, h.2 j hj]
    by_cases e2 : j < i
    · rw [if_pos e2, if_pos (by omega)]
    · rw [if_neg e2, if_neg (by omega)]
theorem Part.here {f : Nat → UInt8} {s l : List UInt8} {i : Nat} (h : Part f s i l) (hi : i < 16) : gb l i = gb s i := by
  rw [h.2 i hi, if_neg (by omega)]
theorem Part.done {f : Nat → UInt8} {s l : List UInt8} (h : Part f s 16 l) : l = mk16 f := by
  refine ext8 (by rw [h.1, mk16_length]) fun j hj => ?_
  rw [h.1] at hj
  rw [h.2 j hj, if_pos hj, mk16_at f j hj]

def withF (s k : List UInt8) (j : Nat) : UInt8 := gb s j ^^^ gb k j
def withL (s k : List UInt8) : List UInt8 := mk16 (withF s k)
def swapF (s by_ : List UInt8) (j : Nat) : UInt8 := gb by_ (gb s j).toNat
def swapL (s by_ : List UInt8) : List UInt8 := mk16 (swapF s by_)
def rowF (s : List UInt8) (n : Nat) (j : Nat) : UInt8 := gb s (j % 4 + 4 * ((j / 4 + j % 4 * n) % 4))
def rowL (s : List UInt8) (n : Nat) : List UInt8 := mk16 (rowF s n)
/-- a product in the small field, as the program has it: n steps -/
def tm : Nat → UInt8 → UInt8 → UInt8 → UInt8
  | 0, _, _, out => out
  | n + 1, a, b, out => if b = 0 then out else tm n (a <<< 1 ^^^ (a >>> 7) * 0x1b) (b >>> 1) (if b &&& 1 = 1 then out ^^^ a else out)
def times (a b : UInt8) : UInt8 := tm 8 a b 0
/-- a place of a changed column, by its first k summands -/
def colP (s by_ : List UInt8) (j : Nat) : Nat → UInt8
  | 0 => 0
  | k + 1 => colP s by_ j k ^^^ times (gb s (4 * (j / 4) + k)) (gb by_ ((k + 4 - j % 4) % 4))
def colF (s by_ : List UInt8) (j : Nat) : UInt8 := colP s by_ j 4
theorem set_gb (l : List UInt8) (i : Nat) : l.set i (gb l i) = l := by
  apply List.ext_getElem (by simp)
  intro j h1 h2
  rw [List.getElem_set]
  split
  · rename_i e
    subst e
    simp [gb, List.getD_eq_getElem?_getD, h2]
  · rfl
theorem gb_set_same (l : List UInt8) (i : Nat) (b : UInt8) (h : i < l.length) : gb (l.set i b) i = b := by rw [gb_set _ _ _ _ h, if_pos rfl]
def colL (s by_ : List UInt8) : List UInt8 := mk16 (colF s by_)
/-- a byte turned up -/
def rotl (q : UInt8) : Nat → UInt8
  | 1 => q <<< 1 ||| q >>> 7
  | 2 => q <<< 2 ||| q >>> 6
  | 3 => q <<< 3 ||| q >>> 5
  | 4 => q <<< 4 ||| q >>> 4
  | _ => q
/-- the stand-in of p, by its inverse q -/
def standIn (q : UInt8) : UInt8 := q ^^^ rotl q 1 ^^^ rotl q 2 ^^^ rotl q 3 ^^^ rotl q 4 ^^^ 99
/-- the two numbers of the loop over all stand-ins, after n rounds -/
def pq : Nat → UInt8 × UInt8
  | 0 => (1, 1)
  | n + 1 => (times (pq n).1 3, times (pq n).2 0xf6)
/-- a cipher's 752 bytes after n rounds of that loop -/
def cells : Nat → List UInt8
  | 0 => List.replicate 752 0
  | n + 1 => ((cells n).set (240 + (pq n).1.toNat) (standIn (pq n).2)).set (496 + (standIn (pq n).2).toNat) (pq n).1
theorem cells_length : ∀ n, (cells n).length = 752
  | 0 => List.length_replicate ..
  | n + 1 => by rw [cells, List.length_set, List.length_set, cells_length n]
def standCells : List UInt8 := ((cells 255).set 240 99).set (496 + 99) 0
theorem standCells_length : standCells.length = 752 := by rw [standCells, List.length_set, List.length_set, cells_length]
/-- the run of the loop's numbers, by the fewest steps -/
def pqs : Nat → UInt8 × UInt8 → List (UInt8 × UInt8)
  | 0, x => [x]
  | n + 1, x => x :: pqs n (times x.1 3, times x.2 0xf6)
theorem pqs_at : ∀ (n m : Nat), m ≤ n → ∀ k, (pqs n (pq k))[m]? = some (pq (k + m))
  | 0, 0, _, k => rfl
  | n + 1, 0, _, k => rfl
  | n + 1, m + 1, h, k => by
    have := pqs_at n m (by omega) (k + 1)
    rw [pqs]
    simp only [List.getElem?_cons_succ]
    rw [show (times (pq k).1 3, times (pq k).2 0xf6) = pq (k + 1) from rfl, this]
    congr 2
    omega
theorem pq_turn : (∀ m, m ≤ 255 → ((((pqs 255 (1, 1))[m]?).map fun x => decide (x.1 = 1)) = some (decide (m = 0 ∨ m = 255)))) := by decide +kernel
theorem pq_one (m : Nat) (h : m ≤ 255) : (decide ((pq m).1 = 1)) = decide (m = 0 ∨ m = 255) := by
  have h1 := pq_turn m h
  have h2 := pqs_at 255 m h 0
  rw [Nat.zero_add] at h2
  rw [show pq 0 = (1, 1) from rfl] at h2
  rw [h2] at h1
  simpa using h1
end Go.Proofs.Ytfbcgpgpfpnpnaa.Aes
