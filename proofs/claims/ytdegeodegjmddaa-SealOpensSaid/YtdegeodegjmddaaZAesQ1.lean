/- AES in plain Lean, on bytes: what the program's functions compute. No program in sight. Conditions: none. AES' key schedule in plain Lean, as the program has it. Conditions: none. Contracts of AES' functions on one block: with, swapped, rows, columns, times. Conditions: blocks of 16 bytes. Contracts of the loop that makes AES' stand-ins. Conditions: the cipher's block is new, all noughts. -/
import Derived.Test.YtdegeodegjmddaaZRowQ
set_option linter.unusedVariables false
set_option linter.unusedSimpArgs false
namespace Go.Proofs.Ytdegeodegjmddaa.Aes
open Go Go.RowKit Go.Proofs.Ytdegeodegjmddaa.Row
set_option maxRecDepth 100000
set_option linter.unusedVariables false
set_option linter.unusedSimpArgs false

/-- 16 bytes by their places. -/
def mk16 (f : Nat → UInt8) : List UInt8 := (List.range 16).map f
@[simp] theorem mk16_length (f : Nat → UInt8) : (mk16 f).length = 16 := by simp [mk16]
theorem mk16_at (f : Nat → UInt8) (j : Nat) (h : j < 16) : gb (mk16 f) j = f j := by
  simp [mk16, gb, List.getD_eq_getElem?_getD, h]
/-- What a loop over the 16 places has made so far: new ones below i, the old ones from there on. -/
def Part (f : Nat → UInt8) (s : List UInt8) (i : Nat) (l : List UInt8) : Prop := l.length = 16 ∧ ∀ j, j < 16 → gb l j = if j < i then f j else gb s j
theorem Part.start (f : Nat → UInt8) {s : List UInt8} (h : s.length = 16) : Part f s 0 s := ⟨h, by simp⟩
theorem gb_set (l : List UInt8) (i j : Nat) (b : UInt8) (h : i < l.length) : gb (l.set i b) j = if i = j then b else gb l j := by
  by_cases e : i = j
  · subst e; simp [gb, List.getD_eq_getElem?_getD, h]
  · simp [gb, List.getD_eq_getElem?_getD, e]
theorem Part.next {f : Nat → UInt8} {s l : List UInt8} {i : Nat} (h : Part f s i l) (hi : i < 16) {b : UInt8} (hb : b = f i) : Part f s (i + 1) (l.set i b) := by
  refine ⟨by simp [h.1], fun j hj => ?_⟩
  rw [gb_set _ _ _ _ (by rw [h.1]; exact hi)]
  by_cases e : i = j
  · subst e; simp [hb]
  · rw [if_neg e, h.2 j hj]
    by_cases e2 : j < i
    · rw [if_pos e2, if_pos (by omega)]
    · rw [if_neg e2, if_neg (by omega)]
theorem Part.here {f : Nat → UInt8} {s l : List UInt8} {i : Nat} (h : Part f s i l) (hi : i < 16) : gb l i = gb s i := by
  rw [h.2 i hi, if_neg (by omega)]
theorem Part.done {f : Nat → UInt8} {s l : List UInt8} (h : Part f s 16 l) : l = mk16 f := by
  refine ext8 (by rw [h.1, mk16_length]) fun j hj => ?_
  rw [h.1] at hj
  rw [h.2 j hj, if_pos hj, mk16_at f j hj]

def withF (s k : List UInt8) (j : Nat) : UInt8 := gb s j ^^^ gb k j
def withL (s k : List UInt8) : List UInt8 := mk16 (withF s k)
def swapF (s by_ : List UInt8) (j : Nat) : UInt8 := gb by_ (gb s j).toNat
def swapL (s by_ : List UInt8) : List UInt8 := mk16 (swapF s by_)
def rowF (s : List UInt8) (n : Nat) (j : Nat) : UInt8 := gb s (j % 4 + 4 * ((j / 4 + j % 4 * n) % 4))
def rowL (s : List UInt8) (n : Nat) : List UInt8 := mk16 (rowF s n)
/-- a product in the small field, as the program has it: n steps -/
def tm : Nat → UInt8 → UInt8 → UInt8 → UInt8
  | 0, _, _, out => out
  | n + 1, a, b, out => if b = 0 then out else tm n (a <<< 1 ^^^ (a >>> 7) * 0x1b) (b >>> 1) (if b &&& 1 = 1 then out ^^^ a else out)
def times (a b : UInt8) : UInt8 := tm 8 a b 0
/-- a place of a changed column, by its first k summands -/
def colP (s by_ : List UInt8) (j : Nat) : Nat → UInt8
  | 0 => 0
  | k + 1 => colP s by_ j k ^^^ times (gb s (4 * (j / 4) + k)) (gb by_ ((k + 4 - j % 4) % 4))
def colF (s by_ : List UInt8) (j : Nat) : UInt8 := colP s by_ j 4
theorem set_gb (l : List UInt8) (i : Nat) : l.set i (gb l i) = l := by
  apply List.ext_getElem (by simp)
  intro j h1 h2
  rw [List.getElem_set]
  split
  · rename_i e
    subst e
    simp [gb, List.getD_eq_getElem?_getD, h2]
  · rfl
theorem gb_set_same (l : List UInt8) (i : Nat) (b : UInt8) (h : i < l.length) : gb (l.set i b) i = b := by rw [gb_set _ _ _ _ h, if_pos rfl]
def colL (s by_ : List UInt8) : List UInt8 := mk16 (colF s by_)
/-- a byte turned up -/
def rotl (q : UInt8) : Nat → UInt8
  | 1 => q <<< 1 ||| q >>> 7
  | 2 => q <<< 2 ||| q >>> 6
  | 3 => q <<< 3 ||| q >>> 5
  | 4 => q <<< 4 ||| q >>> 4
  | _ => q
/-- the stand-in of p, by its inverse q -/
def standIn (q : UInt8) : UInt8 := q ^^^ rotl q 1 ^^^ rotl q 2 ^^^ rotl q 3 ^^^ rotl q 4 ^^^ 99
/-- the two numbers of the loop over all stand-ins, after n rounds -/
def pq : Nat → UInt8 × UInt8
  | 0 => (1, 1)
  | n + 1 => (times (pq n).1 3, times (pq n).2 0xf6)
/-- a cipher's 752 bytes after n rounds of that loop -/
def cells : Nat → List UInt8
  | 0 => List.replicate 752 0
  | n + 1 => ((cells n).set (240 + (pq n).1.toNat) (standIn (pq n).2)).set (496 + (standIn (pq n).2).toNat) (pq n).1
theorem cells_length : ∀ n, (cells n).length = 752
  | 0 => List.length_replicate ..
  | n + 1 => by rw [cells, List.length_set, List.length_set, cells_length n]
def standCells : List UInt8 := ((cells 255).set 240 99).set (496 + 99) 0
theorem standCells_length : standCells.length = 752 := by rw [standCells, List.length_set, List.length_set, cells_length]
/-- the run of the loop's numbers, by the fewest steps -/
def pqs : Nat → UInt8 × UInt8 → List (UInt8 × UInt8)
  | 0, x => [x]
  | n + 1, x => x :: pqs n (times x.1 3, times x.2 0xf6)
theorem pqs_at : ∀ (n m : Nat), m ≤ n → ∀ k, (pqs n (pq k))[m]? = some (pq (k + m))
  | 0, 0, _, k => rfl
  | n + 1, 0, _, k => rfl
  | n + 1, m + 1, h, k => by
    have := pqs_at n m (by omega) (k + 1)
    rw [pqs]
    simp only [List.getElem?_cons_succ]
    rw [show (times (pq k).1 3, times (pq k).2 0xf6) = pq (k + 1) from rfl, this]
    congr 2
    omega
theorem pq_turn : (∀ m, m ≤ 255 → ((((pqs 255 (1, 1))[m]?).map fun x => decide (x.1 = 1)) = some (decide (m = 0 ∨ m = 255)))) := by decide +kernel
theorem pq_one (m : Nat) (h : m ≤ 255) : (decide ((pq m).1 = 1)) = decide (m = 0 ∨ m = 255) := by
  have h1 := pq_turn m h
  have h2 := pqs_at 255 m h 0
  rw [Nat.zero_add] at h2
  rw [show pq 0 = (1, 1) from rfl] at h2
  rw [h2] at h1
  simpa using h1
end Go.Proofs.Ytdegeodegjmddaa.Aes

namespace Go.Proofs.Ytdegeodegjmddaa.Aes
open Go Go.RowKit Go.Proofs.Ytdegeodegjmddaa.Row Go.Proofs.Ytdegeodegjmddaa.Row.At
set_option maxRecDepth 100000
set_option linter.unusedVariables false
set_option linter.unusedSimpArgs false

/-- Places b, b+1 .. of a list, k of them, set one by one. -/
def fill (W : List UInt8) (b : Nat) (f : Nat → UInt8) : Nat → List UInt8
  | 0 => W
  | k + 1 => (fill W b f k).set (b + k) (f k)
theorem fill_length (W : List UInt8) (b : Nat) (f : Nat → UInt8) : ∀ k, (fill W b f k).length = W.length
  | 0 => rfl
  | k + 1 => by rw [fill, List.length_set, fill_length W b f k]
theorem fill_out (W : List UInt8) (b : Nat) (f : Nat → UInt8) (j : Nat) : ∀ k, (j < b ∨ b + k ≤ j) → gb (fill W b f k) j = gb W j
  | 0, _ => rfl
  | k + 1, h => by
    have h1 := fill_out W b f j k (by omega)
    rw [fill]
    rw [← h1]
    have hne : b + k ≠ j := by omega
    simp [gb, List.getD_eq_getElem?_getD, hne]
theorem fill_in (W : List UInt8) (b : Nat) (f : Nat → UInt8) (j : Nat) : ∀ k, b ≤ j → j < b + k → j < W.length → gb (fill W b f k) j = f (j - b)
  | 0, h1, h2, _ => by omega
  | k + 1, h1, h2, h3 => by
    rw [fill]
    by_cases e : b + k = j
    · subst e
      rw [gb_set_same _ _ _ (by rw [fill_length]; exact h3)]
      congr 1
      omega
    · have := fill_in W b f j k h1 (by omega) h3
      rw [← this]
      simp [gb, List.getD_eq_getElem?_getD, e]
def pow : Nat → UInt8
  | 0 => 1
  | n + 1 => times (pow n) 2
/-- the word ahead, turned, replaced, with the power -/
def wordA (W : List UInt8) (i : Nat) : List UInt8 := (W.drop ((i - 1) * 4)).take 4
def turnW (w : List UInt8) : List UInt8 := [gb w 1, gb w 2, gb w 3, gb w 0]
def subF (w : List UInt8) (k : Nat) : UInt8 := gb standCells (240 + (gb w k).toNat)
def wordB (W : List UInt8) (i : Nat) : List UInt8 := if i % 8 = 0 then turnW (wordA W i) else wordA W i
def wordC (W : List UInt8) (i : Nat) : List UInt8 := if i % 4 = 0 then fill (wordB W i) 0 (subF (wordB W i)) 4 else wordB W i
def wordD (W : List UInt8) (i : Nat) : List UInt8 := if i % 8 = 0 then (wordC W i).set 0 (gb (wordC W i) 0 ^^^ pow ((i - 1) / 8)) else wordC W i
def nextF (W : List UInt8) (i : Nat) (k : Nat) : UInt8 := gb W ((i - 8) * 4 + k) ^^^ gb (wordD W i) k
/-- the words' 240 bytes after i rounds -/
def ex (kb : List UInt8) : Nat → List UInt8
  | 0 => List.replicate 240 0
  | i + 1 => if i < 8 then spl (ex kb i) (i * 4) ((kb.drop (i * 4)).take 4) else fill (ex kb i) (i * 4) (nextF (ex kb i) i) 4
theorem ex_length (kb : List UInt8) (hk : kb.length = 32) : ∀ i, i ≤ 60 → (ex kb i).length = 240
  | 0, _ => List.length_replicate ..
  | i + 1, h => by
    rw [ex]
    split
    · rw [spl_length _ _ _ (by rw [ex_length kb hk i (by omega), List.length_take]; omega), ex_length kb hk i (by omega)]
    · rw [fill_length, ex_length kb hk i (by omega)]
theorem wordA_length (W : List UInt8) (i : Nat) (h : W.length = 240) (h1 : 1 ≤ i) (h2 : i ≤ 60) : (wordA W i).length = 4 := by
  rw [wordA, List.length_take, List.length_drop, h]; omega
theorem wordB_length (W : List UInt8) (i : Nat) (h : W.length = 240) (h1 : 1 ≤ i) (h2 : i ≤ 60) : (wordB W i).length = 4 := by
  rw [wordB]; split
  · rfl
  · exact wordA_length W i h h1 h2
theorem wordC_length (W : List UInt8) (i : Nat) (h : W.length = 240) (h1 : 1 ≤ i) (h2 : i ≤ 60) : (wordC W i).length = 4 := by
  rw [wordC]; split
  · rw [fill_length, wordB_length W i h h1 h2]
  · exact wordB_length W i h h1 h2
theorem wordD_length (W : List UInt8) (i : Nat) (h : W.length = 240) (h1 : 1 ≤ i) (h2 : i ≤ 60) : (wordD W i).length = 4 := by
  rw [wordD]; split
  · rw [List.length_set, wordC_length W i h h1 h2]
  · exact wordC_length W i h h1 h2
/-- a cipher's cells after i of the 60 words were copied -/
def keyCells (W : List UInt8) (i : Nat) : List UInt8 := W.take (4 * i) ++ standCells.drop (4 * i)
theorem keyCells_length (W : List UInt8) (h : W.length = 240) (i : Nat) (hi : i ≤ 60) : (keyCells W i).length = 752 := by
  rw [keyCells, List.length_append, List.length_take, List.length_drop, standCells_length, h]; omega
theorem keyCells_zero (W : List UInt8) : keyCells W 0 = standCells := by simp [keyCells]
theorem keyCells_next (W : List UInt8) (h : W.length = 240) (i : Nat) (hi : i < 60) : spl (keyCells W i) (4 * i) ((W.drop (4 * i)).take 4) = keyCells W (i + 1) := by
  have hl : (W.take (4 * i)).length = 4 * i := by rw [List.length_take, h]; omega
  have hm : ((W.drop (4 * i)).take 4).length = 4 := by rw [List.length_take, List.length_drop, h]; omega
  rw [spl, hm, keyCells, keyCells, List.take_left' hl, show 4 * i + 4 = (W.take (4 * i)).length + 4 by rw [hl], List.drop_length_add_append, List.drop_drop]
  rw [show 4 * (i + 1) = 4 * i + 4 by omega, List.take_add]
/-- all cells of the cipher of a key -/
def cipher (kb : List UInt8) : List UInt8 := keyCells (ex kb 60) 60
theorem cipher_length (kb : List UInt8) (h : kb.length = 32) : (cipher kb).length = 752 := keyCells_length _ (ex_length kb h 60 (Nat.le_refl _)) 60 (Nat.le_refl _)
def toT (C : List UInt8) : List UInt8 := (C.drop 240).take 256
def fromT (C : List UInt8) : List UInt8 := (C.drop 496).take 256
def rkey (C : List UInt8) (n : Nat) : List UInt8 := (C.drop (n * 16)).take 16
/-- one round of enciphering -/
def encMix (C s : List UInt8) (n : Nat) : List UInt8 := if n = 0 then s else rowL (swapL s (toT C)) 1
def encCol (s : List UInt8) (n : Nat) : List UInt8 := if n = 0 ∨ n = 14 then s else colL s [2, 3, 1, 1]
def encRound (C s : List UInt8) (n : Nat) : List UInt8 := withL (encCol (encMix C s n) n) (rkey C n)
/-- one round of deciphering, m the rounds that are left -/
def decCol (s : List UInt8) (m : Nat) : List UInt8 := if m = 0 ∨ m = 14 then s else colL s [14, 11, 13, 9]
def decMix (C s : List UInt8) (m : Nat) : List UInt8 := if m = 0 then s else swapL (rowL s 3) (fromT C)
def decRound (C s : List UInt8) (n : Nat) : List UInt8 := decMix C (decCol (withL s (rkey C (14 - n))) (14 - n)) (14 - n)
def steps (f : List UInt8 → Nat → List UInt8) (s : List UInt8) : Nat → List UInt8
  | 0 => s
  | n + 1 => f (steps f s n) n
/-- A block enciphered, deciphered, by a key. -/
def encS (kb s : List UInt8) : List UInt8 := steps (encRound (cipher kb)) s 15
def decS (kb s : List UInt8) : List UInt8 := steps (decRound (cipher kb)) s 15
theorem encMix_length (C s : List UInt8) (n : Nat) (h : s.length = 16) : (encMix C s n).length = 16 := by
  rw [encMix]; split
  · exact h
  · exact mk16_length _
theorem encCol_length (s : List UInt8) (n : Nat) (h : s.length = 16) : (encCol s n).length = 16 := by
  rw [encCol]; split
  · exact h
  · exact mk16_length _
theorem encRound_length (C s : List UInt8) (n : Nat) : (encRound C s n).length = 16 := mk16_length _
theorem decCol_length (s : List UInt8) (n : Nat) (h : s.length = 16) : (decCol s n).length = 16 := by
  rw [decCol]; split
  · exact h
  · exact mk16_length _
theorem decMix_length (C s : List UInt8) (n : Nat) (h : s.length = 16) : (decMix C s n).length = 16 := by
  rw [decMix]; split
  · exact h
  · exact mk16_length _
theorem decRound_length (C s : List UInt8) (n : Nat) : (decRound C s n).length = 16 := decMix_length _ _ _ (decCol_length _ _ (mk16_length _))
theorem steps_length (f : List UInt8 → Nat → List UInt8) (hf : ∀ s n, (f s n).length = 16) (s : List UInt8) (h : s.length = 16) : ∀ n, (steps f s n).length = 16
  | 0 => h
  | n + 1 => hf _ _
theorem toT_length (C : List UInt8) (h : C.length = 752) : (toT C).length = 256 := by rw [toT, List.length_take, List.length_drop, h]; rfl
theorem fromT_length (C : List UInt8) (h : C.length = 752) : (fromT C).length = 256 := by rw [fromT, List.length_take, List.length_drop, h]; rfl
theorem rkey_length (C : List UInt8) (h : C.length = 752) (n : Nat) (hn : n < 15) : (rkey C n).length = 16 := by rw [rkey, List.length_take, List.length_drop, h]; omega
end Go.Proofs.Ytdegeodegjmddaa.Aes

namespace Go.Proofs.Ytdegeodegjmddaa.Given
open Go.RowKit Go.Proofs.YtdegeodegjmddaaW.PrintWords Go.Proofs.YtdegeodegjmddaaW.PrintLast Go.Proofs.YtdegeodegjmddaaW.PrintMore
open Go.Proofs.Ytdegeodegjmddaa.Row Go.Proofs.Ytdegeodegjmddaa.Aes
set_option maxRecDepth 100000
set_option linter.unusedVariables false
set_option linter.unusedSimpArgs false
attribute [-simp] Try.isAgg75 Try.sizeOf75 Try.isAgg78 Try.sizeOf78 Try.isAgg83 Try.sizeOf83

/-- A byte out of a block that is a value. -/
theorem index_block (s : List UInt8) (i : Nat) (h : i < 16) (hs : s.length = 16) (w : World) : (Instr.index 75 (.agg (b8s s).toArray) (.int .i64 (i : Int))).run Try.prog w = .ok (.int .u8 (gb s i).toNat) w := by
  have h1 : (0 : Int) ≤ (i : Int) ∧ (i : Int) < 16 := by omega
  have h2 := b8s_get s i (by omega)
  simp [Instr.index, go_sem, h1, part, h2]
  omega
theorem infoS : (Try.prog.info? 75).map (·.size) = some 16 := by kernel_rfl
theorem At.zeros {w : World} {t : TypeId} {g : Nat} (hg : g = w.heap.size) : At (w.alloc (.cells #[.int .u8 0, .int .u8 0, .int .u8 0, .int .u8 0, .int .u8 0, .int .u8 0, .int .u8 0, .int .u8 0, .int .u8 0, .int .u8 0, .int .u8 0, .int .u8 0, .int .u8 0, .int .u8 0, .int .u8 0, .int .u8 0] t (0, 0))) g t (b8s (List.replicate 16 0)) :=
  At.newAt hg
theorem zeros16 : b8s (List.replicate 16 0) = [.int .u8 0, .int .u8 0, .int .u8 0, .int .u8 0, .int .u8 0, .int .u8 0, .int .u8 0, .int .u8 0, .int .u8 0, .int .u8 0, .int .u8 0, .int .u8 0, .int .u8 0, .int .u8 0, .int .u8 0, .int .u8 0] := rfl

set_option maxHeartbeats 1000000 in
theorem with_any (s k : List UInt8) (hs : s.length = 16) (hk : k.length = 16) (w : World) :
    Calls Try.prog 56 #[.agg (b8s s).toArray, .agg (b8s k).toArray] w fun e w' => e = .returned (.agg (b8s (withL s k)).toArray) ∧ Below w.heap.size w w' := by
  have HS := Aside0.mk hs
  have HK := Aside0.mk hk
  clear hs hk
  go_enter Try.func56, Try.ntmps56
  go_wp2
  go_loopg [6] 16 (fun gg s6 wx => ∃ (i : Nat) (l : List UInt8), i + gg = 16 ∧ s6 = .int .i64 i ∧ At wx w.heap.size 75 (b8s l) ∧ At wx (w.heap.size + 1) 75 (b8s k) ∧
    Part (withF s k) s i l ∧ Below w.heap.size w wx ∧ At wx (w.heap.size + 1 + 1) 75 (b8s (List.replicate 16 0)))
  case atStart => exact ⟨0, s, by omega, rfl, ((At.newAt rfl).alloc _).alloc _, (At.newAt (by simp)).alloc _, Part.start _ HS.out, (((Below.refl _ w).alloc (Nat.le_refl _) _).alloc (by simp) _).alloc (by simp; omega) _, At.zeros (by simp)⟩
  case round =>
    obtain ⟨i, l, hig, rfl, hl, hk, hR, hb, hz⟩ := hrel
    have HL := Aside0.mk hl; have HKr := Aside0.mk hk; have HRR := Aside0.mk hR; have HBB := Aside0.mk hb; have HZ := Aside0.mk hz
    clear hl hk hR hb hz
    cases gk with
    | zero =>
      have hi : i = 16 := by omega
      subst hi
      go_wp2_with (first | ((with_reducible refine gate_dst (N := 18) rfl ?_); refine HL.out.load _ _ rfl rfl rfl _ Try.underlying75 rfl (by rw [b8s_length, HRR.out.1]; exact infoS) ?_) | (refine HZ.out.store _ _ _ (b8s l) rfl rfl rfl rfl (by simp [HRR.out.1]) (by rw [b8s_length, HRR.out.1]; exact infoS) (At.one8 l) ?_))
      refine bodyPost_ret ((HZ.out.setRow _).ret rfl _ _ rfl Try.underlying75 rfl (by rw [b8s_length, HRR.out.1]; exact infoS)) rfl ⟨by rw [HRR.out.done]; rfl, At.row_below HBB.out (by omega) _⟩
    | succ gk =>
      have hi : i < 16 := by omega
      have c1 := HL.out.cell8 i (by rw [HRR.out.1]; exact hi)
      have c2 := HKr.out.cell8 i (by rw [HK.out]; exact hi)
      have f1 := HL.out.frozen i
      go_wp2
      go_still_tail 8, (by kernel_rfl)
      change wpList _ _ _ _ _ wr.drew
      have c1' : wr.drew.cell? { block := w.heap.size, off := i } = some (Value.int IntKind.u8 ↑(gb l i).toNat) := c1
      have f1' : wr.drew.frozen? { block := w.heap.size, off := i } = false := f1
      go_wp2
      rw [u8x]
      go_roundg gk
      case measure => omega
      case rel => exact ⟨i + 1, l.set i (gb l i ^^^ gb k i), by omega, by go_num, HL.out.drewSet8 _ _, ((HKr.out.other _ _ (by simp)).drew), HRR.out.next hi (by rw [HRR.out.here hi]; rfl), (HBB.out.setCell (by simp) _).drew, (HZ.out.other _ _ (by simp; omega)).drew⟩
theorem tm_zero (n : Nat) (a out : UInt8) : tm n a 0 out = out := by cases n <;> simp [tm]
theorem u8_half {n : Nat} {b : UInt8} (h : b.toNat < 2 ^ (n + 1)) : (b >>> 1).toNat < 2 ^ n := by
  have : (b >>> 1).toNat = b.toNat / 2 := by
    simp [UInt8.toNat_shiftRight, Nat.shiftRight_eq_div_pow]
  rw [this, Nat.pow_succ] at *
  omega
theorem u8_step (a : UInt8) : bits .xor .u8 ((a.toNat : Int) * 2 % 256) ((a.toNat : Int) / 128 * 27 % 256) = ((a <<< 1 ^^^ (a >>> 7) * 0x1b).toNat : Int) := by
  have key : ∀ n : Nat, n < 256 → bits .xor .u8 ((n : Int) * 2 % 256) ((n : Int) / 128 * 27 % 256) = ((UInt8.ofNat n <<< 1 ^^^ (UInt8.ofNat n >>> 7) * 0x1b).toNat : Int) := by decide +kernel
  have := key a.toNat a.toNat_lt
  rwa [UInt8.ofNat_toNat] at this
theorem u8_half_eq (b : UInt8) : (b.toNat : Int) / 2 = ((b >>> 1).toNat : Int) := by
  simp [UInt8.toNat_shiftRight, Nat.shiftRight_eq_div_pow]
theorem u8_odd (b : UInt8) : (bits .and .u8 (b.toNat : Int) 1 == 1) = decide (b &&& 1 = 1) := by
  have key : ∀ n : Nat, n < 256 → (bits .and .u8 (n : Int) 1 == 1) = decide (UInt8.ofNat n &&& 1 = 1) := by decide +kernel
  have := key b.toNat b.toNat_lt
  rwa [UInt8.ofNat_toNat] at this

theorem times_any (a b : UInt8) (w : World) :
    Calls Try.prog 67 #[.int .u8 a.toNat, .int .u8 b.toNat] w fun e w' => e = .returned (.int .u8 (times a b).toNat) ∧ w = w' := by
  obtain ⟨r, hr⟩ : ∃ r, r = times a b := ⟨_, rfl⟩
  have HR := Aside0.mk hr
  rw [← hr]
  clear hr
  go_enter Try.func67, Try.ntmps67
  go_wp2
  go_loopg [0, 1, 5] 8 (fun gg s0 s1 s5 wx => ∃ (x y o : UInt8), s0 = .int .u8 x.toNat ∧ s1 = .int .u8 y.toNat ∧ s5 = .int .u8 o.toNat ∧ y.toNat < 2 ^ gg ∧ tm gg x y o = r ∧ w = wx)
  case atStart => exact ⟨a, b, 0, rfl, rfl, rfl, b.toNat_lt, HR.out.symm, rfl⟩
  case round =>
    obtain ⟨x, y, o, rfl, rfl, rfl, hy, ht, rfl⟩ := hrel
    have HY := Aside0.mk hy
    have HT := Aside0.mk ht
    clear hy ht
    by_cases h0 : y = 0
    · subst h0
      go_wp2
      go_ret
      exact ⟨by rw [← HT.out, tm_zero]; rfl, rfl⟩
    · have hp : (0 : Int) < (y.toNat : Int) := by
        have : y.toNat ≠ 0 := fun e => h0 (UInt8.toNat_inj.1 (by simpa using e))
        omega
      cases gk with
      | zero => exact absurd HY.out (by have : y.toNat ≠ 0 := fun e => h0 (UInt8.toNat_inj.1 (by simpa using e)); omega)
      | succ gk =>
        have hstep := HT.out
        rw [tm, if_neg h0] at hstep
        have hO := u8_odd y
        by_cases h1 : y &&& 1 = 1
        · rw [if_pos h1] at hstep
          have HS := Aside0.mk hstep
          simp only [h1, decide_true] at hO
          clear hstep
          go_wp2
          rw [u8x, u8_step]
          go_roundg gk
          case measure => omega
          case rel => exact ⟨_, _, _, rfl, congrArg (Value.int .u8) (u8_half_eq y), rfl, u8_half HY.out, HS.out, rfl⟩
        · rw [if_neg h1] at hstep
          have HS := Aside0.mk hstep
          simp only [h1, decide_false] at hO
          clear hstep
          go_wp2
          rw [u8_step]
          go_roundg gk
          case measure => omega
          case rel => exact ⟨_, _, _, rfl, congrArg (Value.int .u8) (u8_half_eq y), rfl, u8_half HY.out, HS.out, rfl⟩

set_option maxHeartbeats 1000000 in
theorem swapped_any (s by_ : List UInt8) (hs : s.length = 16) (hk : by_.length = 256) (w : World) :
    Calls Try.prog 53 #[.agg (b8s s).toArray, .agg (b8s by_).toArray] w fun e w' => e = .returned (.agg (b8s (swapL s by_)).toArray) ∧ Below w.heap.size w w' := by
  have HS := Aside0.mk hs
  have HK := Aside0.mk hk
  clear hs hk
  go_enter Try.func53, Try.ntmps53
  go_wp2_with ((with_reducible refine gate_dst (N := 7) rfl ?_); refine (At.alloc (At.alloc (At.newAt (cs := b8s s) rfl) _) _).load _ _ rfl rfl rfl _ Try.underlying75 rfl (by rw [b8s_length, HS.out]; exact infoS) ?_)
  go_loopg [8] 16 (fun gg s8 wx => ∃ (i : Nat) (l : List UInt8), i + gg = 16 ∧ s8 = .int .i64 i ∧ At wx w.heap.size 75 (b8s l) ∧ At wx (w.heap.size + 1) 78 (b8s by_) ∧
    Part (swapF s by_) s i l ∧ Below w.heap.size w wx ∧ At wx (w.heap.size + 1 + 1) 75 (b8s (List.replicate 16 0)))
  case atStart => exact ⟨0, s, by omega, rfl, ((At.newAt rfl).alloc _).alloc _, (At.newAt (by simp)).alloc _, Part.start _ HS.out, (((Below.refl _ w).alloc (Nat.le_refl _) _).alloc (by simp) _).alloc (by simp; omega) _, At.zeros (by simp)⟩
  case round =>
    obtain ⟨i, l, hig, rfl, hl, hk, hR, hb, hz⟩ := hrel
    have HL := Aside0.mk hl; have HKr := Aside0.mk hk; have HRR := Aside0.mk hR; have HBB := Aside0.mk hb; have HZ := Aside0.mk hz
    clear hl hk hR hb hz
    cases gk with
    | zero =>
      have hi : i = 16 := by omega
      subst hi
      go_wp2_with (first | ((with_reducible refine gate_dst (N := 18) rfl ?_); refine HL.out.load _ _ rfl rfl rfl _ Try.underlying75 rfl (by rw [b8s_length, HRR.out.1]; exact infoS) ?_) | (refine HZ.out.store _ _ _ (b8s l) rfl rfl rfl rfl (by simp [HRR.out.1]) (by rw [b8s_length, HRR.out.1]; exact infoS) (At.one8 l) ?_))
      refine bodyPost_ret ((HZ.out.setRow _).ret rfl _ _ rfl Try.underlying75 rfl (by rw [b8s_length, HRR.out.1]; exact infoS)) rfl ⟨by rw [HRR.out.done]; rfl, At.row_below HBB.out (by omega) _⟩
    | succ gk =>
      have hi : i < 16 := by omega
      have c0 := index_block s i hi HS.out
      have hlt := (gb s i).toNat_lt
      have c2 := HKr.out.cell8 (gb s i).toNat (by rw [HK.out]; exact hlt)
      have c1 := HL.out.cell8 i (by rw [HRR.out.1]; exact hi)
      have f1 := HL.out.frozen i
      go_wp2
      have HC := Aside0.mk (HRR.out.next hi (b := gb by_ (gb s i).toNat) rfl)
      go_roundg gk
      case measure => omega
      case rel => exact ⟨i + 1, _, by omega, by go_num, HL.out.set8 _ _, (HKr.out.other _ _ (by simp)), HC.out, (HBB.out.setCell (by simp) _), (HZ.out.other _ _ (by simp; omega))⟩

set_option maxHeartbeats 1000000 in
theorem rows_any (s : List UInt8) (n : Nat) (hs : s.length = 16) (hn : n = 1 ∨ n = 3) (w : World) :
    Calls Try.prog 54 #[.agg (b8s s).toArray, .int .i64 n] w fun e w' => e = .returned (.agg (b8s (rowL s n)).toArray) ∧ Below w.heap.size w w' := by
  have HS := Aside0.mk hs
  have HN := Aside0.mk hn
  clear hs hn
  go_enter Try.func54, Try.ntmps54
  go_wp2
  go_loopg [9] 16 (fun gg s9 wx => ∃ (i : Nat) (l : List UInt8), i + gg = 16 ∧ s9 = .int .i64 i ∧ At wx w.heap.size 75 (b8s s) ∧ At wx (w.heap.size + 1 + 1) 75 (b8s l) ∧
    Part (rowF s n) (List.replicate 16 0) i l ∧ Below w.heap.size w wx ∧ At wx (w.heap.size + 1) 75 (b8s (List.replicate 16 0)))
  case atStart => exact ⟨0, List.replicate 16 0, by omega, rfl, ((At.newAt rfl).alloc _).alloc _, At.zeros (by simp), Part.start _ rfl, (((Below.refl _ w).alloc (Nat.le_refl _) _).alloc (by simp) _).alloc (by simp; omega) _, (At.zeros (by simp)).alloc _⟩
  case round =>
    obtain ⟨i, l, hig, rfl, hl, hk, hR, hb, hz⟩ := hrel
    have HL := Aside0.mk hl; have HKr := Aside0.mk hk; have HRR := Aside0.mk hR; have HBB := Aside0.mk hb; have HZ := Aside0.mk hz
    clear hl hk hR hb hz
    cases gk with
    | zero =>
      have hi : i = 16 := by omega
      subst hi
      go_wp2_with (first | ((with_reducible refine gate_dst (N := 30) rfl ?_); refine HKr.out.load _ _ rfl rfl rfl _ Try.underlying75 rfl (by rw [b8s_length, HRR.out.1]; exact infoS) ?_) | (refine HZ.out.store _ _ _ (b8s l) rfl rfl rfl rfl (by simp [HRR.out.1]) (by rw [b8s_length, HRR.out.1]; exact infoS) (At.one8 l) ?_))
      refine bodyPost_ret ((HZ.out.setRow _).ret rfl _ _ rfl Try.underlying75 rfl (by rw [b8s_length, HRR.out.1]; exact infoS)) rfl ⟨by rw [HRR.out.done]; rfl, At.row_below HBB.out (by omega) _⟩
    | succ gk =>
      have hi : i < 16 := by omega
      obtain ⟨p, hp⟩ : ∃ p, p = i % 4 * n := ⟨_, rfl⟩
      have hp9 : p ≤ 9 := by rcases HN.out with rfl | rfl <;> omega
      have e1 : wrap64 ((i : Int) % 4 * (n : Int)) = (p : Int) := by
        rw [show (i : Int) % 4 * (n : Int) = (p : Int) by rw [hp]; push_cast; rfl]
        exact wrap64_of_bounds (by omega) (by omega)
      have HP := Aside0.mk hp
      clear hp
      have c2 := HL.out.cell8 (i % 4 + 4 * ((i / 4 + p) % 4)) (by rw [HS.out]; omega)
      have c1 := HKr.out.cell8 i (by rw [HRR.out.1]; exact hi)
      have f1 := HKr.out.frozen i
      go_wp2
      have HC := Aside0.mk (HRR.out.next hi (b := gb s (i % 4 + 4 * ((i / 4 + p) % 4))) (by rw [HP.out]; rfl))
      go_roundg gk
      case measure => omega
      case rel => exact ⟨i + 1, _, by omega, by go_num, (HL.out.other _ _ (by simp; omega)), HKr.out.set8 _ _, HC.out, (HBB.out.setCell (by simp; omega) _), (HZ.out.other _ _ (by simp))⟩

theorem times_q (a b : UInt8) (w : World) : Calls Try.prog 67 #[.int .u8 a.toNat, .int .u8 b.toNat] w fun e w' => e = .returned (.int .u8 (times a b).toNat) ∧ w' = w :=
  (times_any a b w).mono fun e w' h => ⟨h.1, h.2.symm⟩
set_option maxHeartbeats 1000000 in
theorem columns_any (s by_ : List UInt8) (hs : s.length = 16) (hn : by_.length = 4) (w : World) :
    Calls Try.prog 55 #[.agg (b8s s).toArray, .agg (b8s by_).toArray] w fun e w' => e = .returned (.agg (b8s (colL s by_)).toArray) ∧ Below w.heap.size w w' := by
  have HS := Aside0.mk hs
  have HN := Aside0.mk hn
  clear hs hn
  go_enter Try.func55, Try.ntmps55
  go_wp2
  go_loopg [10] 16 (fun gg s10 wx => ∃ (i : Nat) (l : List UInt8), i + gg = 16 ∧ s10 = .int .i64 i ∧ At wx w.heap.size 75 (b8s s) ∧ At wx (w.heap.size + 1) 83 (b8s by_) ∧ At wx (w.heap.size + 1 + 1 + 1) 75 (b8s l) ∧
    Part (colF s by_) (List.replicate 16 0) i l ∧ Below w.heap.size w wx ∧ At wx (w.heap.size + 1 + 1) 75 (b8s (List.replicate 16 0)))
  case atStart => exact ⟨0, List.replicate 16 0, by omega, rfl, (((At.newAt rfl).alloc _).alloc _).alloc _, ((At.newAt (by simp)).alloc _).alloc _, At.zeros (by simp), Part.start _ rfl, ((((Below.refl _ w).alloc (Nat.le_refl _) _).alloc (by simp) _).alloc (by simp; omega) _).alloc (by simp; omega) _, (At.zeros (by simp)).alloc _⟩
  case round =>
    obtain ⟨i, l, hig, rfl, hl, hby, hk, hR, hb, hz⟩ := hrel
    have HL := Aside0.mk hl; have HBY := Aside0.mk hby; have HKr := Aside0.mk hk; have HRR := Aside0.mk hR; have HBB := Aside0.mk hb; have HZ := Aside0.mk hz
    clear hl hby hk hR hb hz
    cases gk with
    | zero =>
      have hi : i = 16 := by omega
      subst hi
      go_wp2_with (first | ((with_reducible refine gate_dst (N := 41) rfl ?_); refine HKr.out.load _ _ rfl rfl rfl _ Try.underlying75 rfl (by rw [b8s_length, HRR.out.1]; exact infoS) ?_) | (refine HZ.out.store _ _ _ (b8s l) rfl rfl rfl rfl (by simp [HRR.out.1]) (by rw [b8s_length, HRR.out.1]; exact infoS) (At.one8 l) ?_))
      refine bodyPost_ret ((HZ.out.setRow _).ret rfl _ _ rfl Try.underlying75 rfl (by rw [b8s_length, HRR.out.1]; exact infoS)) rfl ⟨by rw [HRR.out.done]; rfl, At.row_below HBB.out (by omega) _⟩
    | succ go =>
      have hi : i < 16 := by omega
      go_wp2
      rw [show decide ((i : Int) < 16) = true from decide_eq_true (by omega)]
      go_loopg [17] 4 (fun gi s17 wx => ∃ k : Nat, k + gi = 4 ∧ s17 = .int .i64 k ∧ At wx w.heap.size 75 (b8s s) ∧ At wx (w.heap.size + 1) 83 (b8s by_) ∧ At wx (w.heap.size + 1 + 1 + 1) 75 (b8s (l.set i (colP s by_ i k))) ∧
        Below w.heap.size w wx ∧ At wx (w.heap.size + 1 + 1) 75 (b8s (List.replicate 16 0)))
      case atStart =>
        refine ⟨0, by omega, rfl, HL.out, HBY.out, ?_, HBB.out, HZ.out⟩
        have : gb l i = 0 := by
          rw [HRR.out.here hi]
          have h0 : ∀ i, i < 16 → gb (List.replicate 16 0) i = 0 := by decide
          exact h0 i hi
        have e : l.set i (colP s by_ i 0) = l := by
          rw [colP, ← this, set_gb]
        rw [e]
        exact HKr.out
      case round =>
        obtain ⟨k, hkg, rfl, hl, hby, hk, hb, hz⟩ := hrel
        clear HL HBY HKr HBB HZ
        have HL := Aside0.mk hl; have HBY := Aside0.mk hby; have HKr := Aside0.mk hk; have HBB := Aside0.mk hb; have HZ := Aside0.mk hz
        clear hl hby hk hb hz
        cases gk with
        | zero =>
          have hk : k = 4 := by omega
          subst hk
          have HC := Aside0.mk (HRR.out.next hi (b := colP s by_ i 4) rfl)
          go_wp2
          go_roundg go
          case measure => omega
          case rel => exact ⟨i + 1, _, by omega, by go_num, HL.out, HBY.out, HKr.out, HC.out, HBB.out, HZ.out⟩
        | succ gk =>
          have hk : k < 4 := by omega
          have c1 := HKr.out.cell8 i (by rw [List.length_set, HRR.out.1]; exact hi)
          rw [gb_set_same _ _ _ (by rw [HRR.out.1]; exact hi)] at c1
          obtain ⟨u, hu⟩ : ∃ u, u = 4 * (i / 4) := ⟨_, rfl⟩
          obtain ⟨v, hv⟩ : ∃ v, v = u + k := ⟨_, rfl⟩
          obtain ⟨x, hx⟩ : ∃ x, x = k + 4 := ⟨_, rfl⟩
          obtain ⟨y, hy⟩ : ∃ y, y = x - i % 4 := ⟨_, rfl⟩
          obtain ⟨z, hz⟩ : ∃ z, z = y % 4 := ⟨_, rfl⟩
          have e1 : IntKind.i64.wrap (4 * ((i : Int) / 4)) = (u : Int) := by
            rw [show 4 * ((i : Int) / 4) = (u : Int) by omega]
            exact wrapi_of_bounds (by omega) (by omega)
          have e2 : IntKind.i64.wrap ((u : Int) + (k : Int)) = (v : Int) := by
            rw [show (u : Int) + (k : Int) = (v : Int) by omega]
            exact wrapi_of_bounds (by omega) (by omega)
          have e3 : IntKind.i64.wrap ((k : Int) + 4) = (x : Int) := by
            rw [show (k : Int) + 4 = (x : Int) by omega]
            exact wrapi_of_bounds (by omega) (by omega)
          have e4 : IntKind.i64.wrap ((x : Int) - (i : Int) % 4) = (y : Int) := by
            rw [show (x : Int) - (i : Int) % 4 = (y : Int) by omega]
            exact wrapi_of_bounds (by omega) (by omega)
          have e5 : (y : Int).tmod 4 = (z : Int) := by
            rw [Int.tmod_eq_emod_of_nonneg (by omega)]
            omega
          have hv16 : (v : Int) < 16 := by omega
          have hz4 : (z : Int) < 4 := by omega
          have c2 := HL.out.cell8 v (by rw [HS.out]; omega)
          have c3 := HBY.out.cell8 z (by rw [HN.out]; omega)
          have f1 := HKr.out.frozen i
          have HV := Aside0.mk (show v = 4 * (i / 4) + k by omega)
          have HZZ := Aside0.mk (show z = (k + 4 - i % 4) % 4 by omega)
          clear hu hv hx hy hz
          go_wp2
          refine wp_region_still_tail 18 (by kernel_rfl) (by kernel_rfl) ?_
          simp only [List.take_succ_cons, List.take_zero, List.drop_succ_cons, List.drop_zero]
          iterate 16 still_step
          still_call (times_q _ _ _)
          still_step
          refine wpStill_nil ?_
          change wpList _ _ _ _ _ wr.drew
          have c1' : wr.drew.cell? { block := w.heap.size + 1 + 1 + 1, off := i } = some (Value.int IntKind.u8 ↑(colP s by_ i k).toNat) := c1
          have f1' : wr.drew.frozen? { block := w.heap.size + 1 + 1 + 1, off := i } = false := f1
          clear c1 c2 c3 e1 e2 e3 e4 e5 f1
          go_wp2
          rw [u8x]
          have HC : Aside0 (colP s by_ i k ^^^ times (gb s v) (gb by_ z) = colP s by_ i (k + 1)) := ⟨by rw [colP, ← HV.out, ← HZZ.out]⟩
          go_roundg gk
          case measure => omega
          case rel =>
            refine ⟨k + 1, by omega, by go_num, (HL.out.other _ _ (by simp <;> omega)).drew, (HBY.out.other _ _ (by simp <;> omega)).drew, ?_, (HBB.out.setCell (by simp; omega) _).drew, (HZ.out.other _ _ (by simp)).drew⟩
            have := HKr.out.drewSet8 i (colP s by_ i k ^^^ times (gb s v) (gb by_ z))
            rw [List.set_set] at this
            rw [← HC.out]
            exact this
end Go.Proofs.Ytdegeodegjmddaa.Given

namespace Go.Proofs.Ytdegeodegjmddaa.Given
open Go.RowKit Go.Proofs.YtdegeodegjmddaaW.PrintWords Go.Proofs.YtdegeodegjmddaaW.PrintLast Go.Proofs.YtdegeodegjmddaaW.PrintMore
open Go.Proofs.Ytdegeodegjmddaa.Row Go.Proofs.Ytdegeodegjmddaa.Aes
set_option maxRecDepth 100000
set_option linter.unusedVariables false
set_option linter.unusedSimpArgs false
attribute [-simp] Try.isAgg80 Try.sizeOf80

theorem rot1 (q : UInt8) (w : World) : Calls Try.prog 76 #[.int .u8 q.toNat, .int .i64 1] w fun e w' => e = .returned (.int .u8 (rotl q 1).toNat) ∧ w = w' := by
  have b : bits .and .u64 1 7 = 1 := by decide +kernel
  have key : ∀ n : Nat, n < 256 → bits .or .u8 ((n : Int) * 2 % 256) ((n : Int) / 128) = ((rotl (UInt8.ofNat n) 1).toNat : Int) := by decide +kernel
  have HK := Aside0.mk (key q.toNat q.toNat_lt)
  clear key
  go_enter Try.func76, Try.ntmps76
  go_wp2
  have hk := HK.out
  rw [UInt8.ofNat_toNat] at hk
  rw [hk]
  go_ret
  exact ⟨rfl, rfl⟩
theorem rot2 (q : UInt8) (w : World) : Calls Try.prog 76 #[.int .u8 q.toNat, .int .i64 2] w fun e w' => e = .returned (.int .u8 (rotl q 2).toNat) ∧ w = w' := by
  have b : bits .and .u64 2 7 = 2 := by decide +kernel
  have key : ∀ n : Nat, n < 256 → bits .or .u8 ((n : Int) * 4 % 256) ((n : Int) / 64) = ((rotl (UInt8.ofNat n) 2).toNat : Int) := by decide +kernel
  have HK := Aside0.mk (key q.toNat q.toNat_lt)
  clear key
  go_enter Try.func76, Try.ntmps76
  go_wp2
  have hk := HK.out
  rw [UInt8.ofNat_toNat] at hk
  rw [hk]
  go_ret
  exact ⟨rfl, rfl⟩
theorem rot3 (q : UInt8) (w : World) : Calls Try.prog 76 #[.int .u8 q.toNat, .int .i64 3] w fun e w' => e = .returned (.int .u8 (rotl q 3).toNat) ∧ w = w' := by
  have b : bits .and .u64 3 7 = 3 := by decide +kernel
  have key : ∀ n : Nat, n < 256 → bits .or .u8 ((n : Int) * 8 % 256) ((n : Int) / 32) = ((rotl (UInt8.ofNat n) 3).toNat : Int) := by decide +kernel
  have HK := Aside0.mk (key q.toNat q.toNat_lt)
  clear key
  go_enter Try.func76, Try.ntmps76
  go_wp2
  have hk := HK.out
  rw [UInt8.ofNat_toNat] at hk
  rw [hk]
  go_ret
  exact ⟨rfl, rfl⟩
theorem rot4 (q : UInt8) (w : World) : Calls Try.prog 76 #[.int .u8 q.toNat, .int .i64 4] w fun e w' => e = .returned (.int .u8 (rotl q 4).toNat) ∧ w = w' := by
  have b : bits .and .u64 4 7 = 4 := by decide +kernel
  have key : ∀ n : Nat, n < 256 → bits .or .u8 ((n : Int) * 16 % 256) ((n : Int) / 16) = ((rotl (UInt8.ofNat n) 4).toNat : Int) := by decide +kernel
  have HK := Aside0.mk (key q.toNat q.toNat_lt)
  clear key
  go_enter Try.func76, Try.ntmps76
  go_wp2
  have hk := HK.out
  rw [UInt8.ofNat_toNat] at hk
  rw [hk]
  go_ret
  exact ⟨rfl, rfl⟩

theorem rot_any (q : UInt8) (k : Int) (hk : k = 1 ∨ k = 2 ∨ k = 3 ∨ k = 4) (w : World) : Calls Try.prog 76 #[.int .u8 q.toNat, .int .i64 k] w fun e w' => e = .returned (.int .u8 (rotl q k.toNat).toNat) ∧ w = w' := by
  rcases hk with rfl | rfl | rfl | rfl
  · exact rot1 q w
  · exact rot2 q w
  · exact rot3 q w
  · exact rot4 q w
theorem u8x99 (a : UInt8) : bits .xor .u8 (a.toNat : Int) 99 = ((a ^^^ 99).toNat : Int) := u8x a 99
theorem times3 (a : UInt8) (w : World) : Calls Try.prog 67 #[.int .u8 a.toNat, .int .u8 3] w fun e w' => e = .returned (.int .u8 (times a 3).toNat) ∧ w = w' := times_any a 3 w
theorem timesF6 (a : UInt8) (w : World) : Calls Try.prog 67 #[.int .u8 a.toNat, .int .u8 246] w fun e w' => e = .returned (.int .u8 (times a 246).toNat) ∧ w = w' := times_any a 246 w
theorem times2 (a : UInt8) (w : World) : Calls Try.prog 67 #[.int .u8 a.toNat, .int .u8 2] w fun e w' => e = .returned (.int .u8 (times a 2).toNat) ∧ w = w' := times_any a 2 w
theorem u8_one (p : UInt8) : ((p.toNat : Int) == 1) = decide (p = 1) := by
  have key : ∀ n : Nat, n < 256 → ((n : Int) == 1) = decide (UInt8.ofNat n = 1) := by decide +kernel
  have := key p.toNat p.toNat_lt
  rwa [UInt8.ofNat_toNat] at this
set_option maxHeartbeats 1000000 in
theorem standIns_any (g : Nat) (w : World) (h : At w g 80 (b8s (cells 0))) :
    Calls Try.prog 66 #[.pointer (some ⟨g, 0, none⟩)] w fun e w' => e = .returned (.tuple #[]) ∧ At w' g 80 (b8s standCells) ∧ Below g w w' := by
  have HA := Aside0.mk h
  clear h
  go_enter Try.func66, Try.ntmps66
  go_wp2
  go_loopg [2, 3] 254 (fun gg s2 s3 wx => ∃ n : Nat, n + gg = 254 ∧ s2 = .int .u8 (pq n).1.toNat ∧ s3 = .int .u8 (pq n).2.toNat ∧ At wx g 80 (b8s (cells n)) ∧ Below g w wx)
  case atStart => exact ⟨0, by omega, rfl, rfl, HA.out, Below.refl _ _⟩
  case round =>
    obtain ⟨n, hn, rfl, rfl, hc, hb⟩ := hrel
    have HC := Aside0.mk hc; have HB := Aside0.mk hb
    clear hc hb
    obtain ⟨p, hp⟩ : ∃ p, p = (pq n).1 := ⟨_, rfl⟩
    obtain ⟨q, hq⟩ : ∃ q, q = (pq n).2 := ⟨_, rfl⟩
    rw [← hp, ← hq]
    have HP := Aside0.mk hp; have HQ := Aside0.mk hq
    clear hp hq
    go_wp2_with (go_at_call 76; (with_reducible refine (rot_any q _ (by decide) _).mono ?_); rintro e w' ⟨rfl, rfl⟩)
    rw [u8x, u8x, u8x, u8x, u8x99]
    obtain ⟨s, hs⟩ : ∃ s, s = standIn q := ⟨_, rfl⟩
    rw [show q ^^^ rotl q 1 ^^^ rotl q 2 ^^^ rotl q 3 ^^^ rotl q 4 ^^^ 99 = s from hs.symm]
    have HS := Aside0.mk hs
    clear hs
    have hp := p.toNat_lt
    have hs := s.toNat_lt
    have c1 := HC.out.cell8 (240 + p.toNat) (by rw [cells_length]; omega)
    have c2 := HC.out.cell8 (496 + s.toNat) (by rw [cells_length]; omega)
    have f1 := HC.out.frozen (240 + p.toNat)
    have f2 := HC.out.frozen (496 + s.toNat)
    go_region
    have hnext : (pq (n + 1)).1 = times p 3 ∧ (pq (n + 1)).2 = times q 246 := ⟨by rw [pq, ← HP.out], by rw [pq, ← HQ.out]⟩
    have HNX := Aside0.mk hnext
    have hcells : (cells n).set (240 + p.toNat) s = (cells n).set (240 + (pq n).1.toNat) (standIn (pq n).2) ∧ ((cells n).set (240 + p.toNat) s).set (496 + s.toNat) p = cells (n + 1) := by
      have hs : s = standIn (pq n).2 := by rw [HS.out, HQ.out]
      exact ⟨by rw [← HP.out, hs], by rw [cells, ← HP.out, ← hs]⟩
    have HCE := Aside0.mk hcells
    clear hnext hcells c1 c2 f1 f2 hp hs
    by_cases h254 : n = 254
    · have hone : ((times p 3).toNat : Int) == 1 := by
        have := pq_one (n + 1) (by omega)
        rw [HNX.out.1] at this
        rw [u8_one, this]
        simp [h254]
      have HC2 : At ((wr.setCell { block := g, off := 240 + p.toNat } (Value.int IntKind.u8 ↑s.toNat)).setCell { block := g, off := 496 + s.toNat } (Value.int IntKind.u8 ↑p.toNat)).drew g 80 (b8s (cells 255)) := by
        have := (HC.out.set8 (240 + p.toNat) s).drewSet8 (496 + s.toNat) p
        rw [HCE.out.2, h254] at this
        exact this
      have HB2 := Aside0.mk (((HB.out.setCell (p := ⟨g, 240 + p.toNat, none⟩) (Nat.le_refl _) (Value.int IntKind.u8 ↑s.toNat)).setCell (p := ⟨g, 496 + s.toNat, none⟩) (Nat.le_refl _) (Value.int IntKind.u8 ↑p.toNat)).drew)
      generalize ((wr.setCell { block := g, off := 240 + p.toNat } (Value.int IntKind.u8 ↑s.toNat)).setCell { block := g, off := 496 + s.toNat } (Value.int IntKind.u8 ↑p.toNat)).drew = w2 at *
      have HC3 := Aside0.mk HC2
      have c1 := HC2.cell8 240 (by rw [cells_length]; omega)
      have c2 := HC2.cell8 595 (by rw [cells_length]; omega)
      have f1 := HC2.frozen 240
      have f2 := HC2.frozen 595
      clear HC2
      go_wp2_with (go_at_call 67; (first | (with_reducible refine (times3 _ _).mono ?_) | (with_reducible refine (timesF6 _ _).mono ?_)); rintro e w' ⟨rfl, rfl⟩)
      go_region
      go_wp2
      go_end0
      exact ⟨rfl, (HC3.out.set8 240 99).drewSet8 595 0, ((HB2.out.setCell (Nat.le_refl _) _).setCell (Nat.le_refl _) _).drew⟩
    · have hone : (((times p 3).toNat : Int) == 1) = false := by
        have := pq_one (n + 1) (by omega)
        rw [HNX.out.1] at this
        rw [u8_one, this]
        simp; omega
      obtain ⟨gn, rfl⟩ : ∃ gn, gk = gn + 1 := ⟨gk - 1, by omega⟩
      go_wp2_with (go_at_call 67; (first | (with_reducible refine (times3 _ _).mono ?_) | (with_reducible refine (timesF6 _ _).mono ?_)); rintro e w' ⟨rfl, rfl⟩)
      go_roundg gn
      case measure => omega
      case rel =>
        refine ⟨n + 1, by omega, by rw [HNX.out.1], by rw [HNX.out.2], ?_, ((HB.out.setCell (Nat.le_refl _) _).setCell (Nat.le_refl _) _).drew⟩
        have := (HC.out.set8 (240 + p.toNat) s).drewSet8 (496 + s.toNat) p
        rw [HCE.out.2] at this
        exact this
end Go.Proofs.Ytdegeodegjmddaa.Given
