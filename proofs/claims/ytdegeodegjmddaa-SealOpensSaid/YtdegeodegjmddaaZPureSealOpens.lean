/- What any bytes are the seal of, by any password, or how they are refused, is the document's. Conditions: none but the statement's own. -/
import Derived.Test.YtdegeodegjmddaaZPSealOpensx3
namespace Go.Proofs.Ytdegeodegjmddaa.Pure
open Go.RowKit Go.Proofs.Ytdegeodegjmddaa.PSealOpens Go.Proofs.YtdegeodegjmddaaW.PrintWords Go.Proofs.YtdegeodegjmddaaW.PrintLast Go.Proofs.YtdegeodegjmddaaW.PrintMore

set_option linter.unusedVariables false
set_option linter.unusedSimpArgs false

/-! bytes, frames and blocks of the document (hamperref10) -/
section ref10B
open Given Cbc
def nb (l : List UInt8) : List Int := l.map fun b => (b.toNat : Int)
theorem nb_length (l : List UInt8) : (nb l).length = l.length := by simp [nb]
theorem nb_bytes (s : ByteArray) : bytesOf s = nb s.data.toList := rfl
theorem nb_app (a b : List UInt8) : nb a ++ nb b = nb (a ++ b) := by simp [nb]
theorem str_nb (l : List UInt8) : strOfNums (nb l) = bs l := by
  unfold strOfNums nb bs
  rw [List.map_map]
  congr 1
  have e : ((fun x : Int => UInt8.ofNat x.toNat) ∘ fun b : UInt8 => (b.toNat : Int)) = id := by
    funext b
    simp
  first
    | rw [e, List.map_id]
    | simp
theorem frame_f (a : ByteArray) (ha : a.size ≤ 140737488351232) : ref10_Frame.f a = some (frameW a) := by
  unfold ref10_Frame.f
  rw [if_pos ha]
theorem xor_f (a b : ByteArray) (ha : a.size = 16) (hb : b.size = 16) : ref10_xor.f a b = some (xorW a b) := by
  unfold ref10_xor.f
  rw [if_pos ⟨ha, hb⟩]
theorem blocks_drop (s : ByteArray) (j : Nat) (hj : j < s.size / 16) : (blocksOf s).drop j = s.extract (16 * j) (16 * j + 16) :: (blocksOf s).drop (j + 1) := by
  have hl : j < (blocksOf s).length := by rw [blocksOf_length]; exact hj
  rw [List.drop_eq_getElem_cons hl]
  congr 1
  simp [blocksOf]
end ref10B

/-! the document's opened chain (hamperref10.Open) -/
section ref10O
open Given Cbc
theorem dec_f (k b : ByteArray) (hk : k.size = 32) (hb : b.size = 16) : ref09_Decrypt.f k b = some (decW k b) := by
  unfold ref09_Decrypt.f
  rw [if_pos ⟨hk, hb⟩]
theorem open_loop (key x : ByteArray) (hk : key.size = 32) (hm : x.size % 16 = 0) (hx : x.size ≤ 1099511627776) : ∀ d j, j + d = x.size / 16 → ∀ (st : List UInt8 × ByteArray) (k : Nat), st.2.size = 16 → st.1.length = 16 * j →
    hamperref10_Open.l0 (k + d + 1) key x (nb st.1) st.2 ((16 * j : Nat) : Int) = hamperref10_Open.l1 k (nb (((blocksOf x).drop j).foldl (openGo key) st).1) 0 0 := by
  intro d
  induction d with
  | zero =>
    intro j hj st k h2 h1
    rw [Nat.add_zero, hamperref10_Open.l0, if_neg (by omega), List.drop_of_length_le (by rw [blocksOf_length]; omega)]
    rfl
  | succ d ih =>
    intro j hj st k h2 h1
    have hw : wrap64 (((16 * j : Nat) : Int) + 16) = ((16 * j + 16 : Nat) : Int) := by unfold wrap64; omega
    have hb : (x.extract (16 * j) (16 * j + 16)).size = 16 := by rw [ByteArray.size_extract]; omega
    rw [show k + (d + 1) + 1 = (k + d + 1) + 1 by omega, hamperref10_Open.l0, if_pos (by omega), if_pos (by omega), hw, if_pos (by omega), if_pos (by omega), Int.toNat_natCast, Int.toNat_natCast, dec_f _ _ hk hb]
    simp only [Option.bind_some]
    rw [xor_f _ _ (decW_size _ _) h2]
    simp only [Option.bind_some]
    rw [if_pos (by rw [nb_length, xorW_size _ _ (decW_size _ _) h2, h1]; omega), nb_bytes, nb_app]
    have := ih (j + 1) (by omega) (openGo key st (x.extract (16 * j) (16 * j + 16))) k hb (by simp only [openGo, List.length_append, toList_length, xorW_size _ _ (decW_size _ _) h2, h1]; omega)
    rw [show 16 * (j + 1) = 16 * j + 16 by omega] at this
    rw [blocks_drop x j (by omega), List.foldl_cons]
    exact this
theorem numL_take (l : List UInt8) (i : Nat) (h : i < l.length) : numL (l.take (i + 1)) = numL (l.take i) * 256 + l[i].toNat := by
  rw [← List.take_append_getElem h, numL_snoc]
theorem numL_grow (l : List UInt8) : ∀ d i, i + d ≤ l.length → numL (l.take i) ≤ numL (l.take (i + d))
  | 0, i, _ => Nat.le_refl _
  | d + 1, i, h => by
    have h1 := numL_grow l d i (by omega)
    have h2 := numL_take l (i + d) (by omega)
    rw [← Nat.add_assoc, h2]
    omega
theorem rd_nb (l : List UInt8) (i : Nat) (h : i < l.length) : rd (nb l) (i : Int) = (l[i].toNat : Int) := by
  simp [rd, nb, List.getD_eq_getElem?_getD, h]
def behind (l : List UInt8) : ByteArray × Int := if 1048576 < numL (l.take 8) ∨ l.length - 8 < numL (l.take 8) then (⟨#[]⟩, 4) else if (frameW (bs ((l.take (8 + numL (l.take 8))).drop 8))).toList = (bs l).toList then (bs ((l.take (8 + numL (l.take 8))).drop 8), 0) else (⟨#[]⟩, 4)
theorem open_num (l : List UInt8) (h8 : 8 ≤ l.length) (hl : l.length ≤ 1099511627776) : ∀ d i, i + d = 8 → ∀ k, 20 ≤ k → numL (l.take i) ≤ 1048576 →
    hamperref10_Open.l1 (k + d) (nb l) ((numL (l.take i) : Nat) : Int) (i : Int) = some (behind l) := by
  intro d
  induction d with
  | zero =>
    intro i hi k hk hn
    obtain ⟨k, rfl⟩ : ∃ m, k = m + 10 := ⟨k - 10, by omega⟩
    have hi8 : i = 8 := by omega
    subst hi8
    rw [Nat.add_zero]
    show hamperref10_Open.l1 (k + 9 + 1) _ _ _ = _
    have hw1 : wrap64 (((nb l).length : Int) - 8) = ((l.length - 8 : Nat) : Int) := by rw [nb_length]; unfold wrap64; omega
    have hw2 : wrap64 (8 + ((numL (l.take 8) : Nat) : Int)) = ((8 + numL (l.take 8) : Nat) : Int) := by unfold wrap64; omega
    rw [hamperref10_Open.l1, if_neg (by omega), hw1]
    unfold behind
    by_cases hb : l.length - 8 < numL (l.take 8)
    · rw [if_pos (by omega), if_pos (.inr hb)]
    · rw [if_neg (by omega), hw2, if_pos (by omega), if_pos (by rw [nb_length]; omega), if_neg (show ¬ (1048576 < numL (l.take 8) ∨ l.length - 8 < numL (l.take 8)) by omega), Int.toNat_natCast]
      simp only [Option.bind_some]
      have e : ((nb l).take (8 + numL (l.take 8))).drop 8 = nb ((l.take (8 + numL (l.take 8))).drop 8) := by simp [nb]
      rw [e, str_nb, str_nb, frame_f _ (by rw [bs_size, List.length_drop, List.length_take]; omega)]
      simp only [Option.bind_some]
      by_cases hf : (frameW (bs ((l.take (8 + numL (l.take 8))).drop 8))).toList = (bs l).toList
      · rw [if_pos hf, if_pos hf]
      · rw [if_neg hf, if_neg hf]
  | succ d ih =>
    intro i hi k hk hn
    have hil : i < l.length := by omega
    have hb := l[i].toNat_lt
    have hw : wrap64 (wrap64 (((numL (l.take i) : Nat) : Int) * 256) + wrap64 (rd (nb l) (i : Int))) = ((numL (l.take (i + 1)) : Nat) : Int) := by
      rw [rd_nb l i hil, numL_take l i hil]
      unfold wrap64
      omega
    have hw1 : wrap64 ((i : Int) + 1) = ((i + 1 : Nat) : Int) := by unfold wrap64; omega
    rw [show k + (d + 1) = (k + d) + 1 by omega, hamperref10_Open.l1, if_pos (by omega), if_pos (by omega), if_pos (by rw [nb_length]; omega), hw, hw1]
    by_cases hbig : numL (l.take (i + 1)) ≤ 1048576
    · rw [if_neg (by omega)]
      exact ih (i + 1) (by omega) k hk hbig
    · rw [if_pos (by omega)]
      unfold behind
      have := numL_grow l (8 - (i + 1)) (i + 1) (by omega)
      rw [show i + 1 + (8 - (i + 1)) = 8 by omega] at this
      rw [if_pos (.inl (by omega))]
theorem behind_open (key first s : ByteArray) (hf : first.size = 16) (h0 : s.size ≠ 0) (hm : s.size % 16 = 0) : behind (openB key first (blocksOf s)).1 = openR key first s := by
  obtain ⟨l, hl⟩ : ∃ l, l = (openB key first (blocksOf s)).1 := ⟨_, rfl⟩
  have hz : (bs l).size = l.length := bs_size l
  have ht : (bs l).data.toList = l := bs_toList l
  have hx : ∀ n, (bs l).extract 8 (8 + n) = bs ((l.take (8 + n)).drop 8) := fun n => by
    apply ba_ext
    rw [extract_list, ht, bs_toList]
  unfold openR behind unframeR
  rw [← hl, hz, ht, hx]
  by_cases hc : 1048576 < numL (l.take 8) ∨ l.length - 8 < numL (l.take 8)
  · rw [if_pos hc, if_pos (Or.comm.1 hc), if_neg (by simp)]
  · rw [if_neg hc, if_neg (fun h => hc (Or.comm.1 h))]
    by_cases he : (frameW (bs ((l.take (8 + numL (l.take 8))).drop 8))).toList = (bs l).toList
    · rw [if_pos he, if_pos (by simpa using he)]
    · rw [if_neg he, if_neg (by simpa using he)]
theorem refOpen_f (k : Nat) (key first s : ByteArray) (hs : s.size ≤ 1099511627776) (hk : s.size / 16 + 100 ≤ k) : hamperref10_Open.f k key first s = cbc_Open.f key first s := by
  obtain ⟨k, rfl⟩ : ∃ m, k = m + 2 := ⟨k - 2, by omega⟩
  unfold hamperref10_Open.f cbc_Open.f
  by_cases hkk : key.size = 32
  · rw [if_pos (by omega)]
    by_cases hf : first.size = 16
    · have e : ((first.size : Int) != 16) = false := by rw [hf]; rfl
      rw [e, if_pos ⟨hkk, hf⟩]
      show hamperref10_Open.j0 (k + 1 + 1) _ _ _ _ = _
      rw [hamperref10_Open.j0, if_neg Bool.false_ne_true]
      by_cases h0 : s.size = 0
      · rw [if_pos (by omega), hamperref10_Open.j1, if_pos rfl, if_pos (.inl h0)]
      · rw [if_neg (by omega)]
        by_cases hm : s.size % 16 = 0
        · have e2 : (((s.size : Int) % 16) != 0) = false := by rw [bne_eq_false_iff_eq]; omega
          rw [e2, hamperref10_Open.j1, if_neg Bool.false_ne_true, if_neg (by omega), if_pos (by omega)]
          obtain ⟨q, hq⟩ : ∃ q, k = (q + 8) + (s.size / 16) + 1 := ⟨k - 9 - s.size / 16, by omega⟩
          have h1 := open_loop key s hkk hm hs (s.size / 16) 0 (by omega) ([], first) (q + 8) hf rfl
          rw [← hq] at h1
          have hlen : (openB key first (blocksOf s)).1.length = s.size := by
            rw [openB_length key first hf _ (fun b hb => blocksOf_size s b hb), blocksOf_length]
            omega
          have h2 := open_num (openB key first (blocksOf s)).1 (by omega) (by omega) 8 0 rfl q (by omega) (by simp [numL])
          rw [behind_open key first s hf h0 hm] at h2
          show hamperref10_Open.l0 k key s (nb []) first ((16 * 0 : Nat) : Int) = _
          rw [h1, List.drop_zero]
          exact h2
        · have e2 : (((s.size : Int) % 16) != 0) = true := by rw [bne_iff_ne]; omega
          rw [e2, hamperref10_Open.j1, if_pos rfl, if_pos (.inr hm)]
    · have e : ((first.size : Int) != 16) = true := by rw [bne_iff_ne]; omega
      rw [e, if_neg (fun h => hf h.2)]
      show hamperref10_Open.j0 (k + 1 + 1) _ _ _ _ = _
      rw [hamperref10_Open.j0, if_pos rfl]
  · rw [if_neg (by omega), if_neg (fun h => hkk h.1)]
    show hamperref10_Open.j0 (k + 1 + 1) _ _ _ _ = _
    rw [hamperref10_Open.j0, if_pos rfl]
end ref10O

open Given in
theorem refKey_ok (pw salt : ByteArray) (r : Int) (h1 : pw.size ≤ 64) (h2 : salt.size = 16) (h3 : 1 ≤ r) (h4 : r ≤ 64) : hamperref08_Key.f pw salt r = some (stretchW pw salt r.toNat 1, (stretchW pw salt r.toNat 2).extract 0 8, 0) := by
  have e1 : ref08_Stretch.f pw salt r 1 = some (stretchW pw salt r.toNat (1 : Int).toNat, 0) := by unfold ref08_Stretch.f; rw [if_pos ⟨h1, h2, h3, h4, by omega, by omega⟩]
  have e2 : ref08_Stretch.f pw salt r 2 = some (stretchW pw salt r.toNat (2 : Int).toNat, 0) := by unfold ref08_Stretch.f; rw [if_pos ⟨h1, h2, h3, h4, by omega, by omega⟩]
  unfold hamperref08_Key.f
  rw [e1, e2]
  have hs : ((stretchW pw salt r.toNat (2 : Int).toNat).size : Int) = 32 := by rw [stretchW_size]; rfl
  simp only [Option.bind_some, if_true]
  rw [if_pos (by omega), if_pos (by omega)]
  rfl
open Given in
theorem refKey_no (pw salt : ByteArray) (r : Int) (h : ¬ (pw.size ≤ 64 ∧ salt.size = 16 ∧ 1 ≤ r ∧ r ≤ 64)) : hamperref08_Key.f pw salt r = some (⟨#[]⟩, ⟨#[]⟩, 1) := by
  have e1 : ref08_Stretch.f pw salt r 1 = some (⟨#[]⟩, 1) := by unfold ref08_Stretch.f; rw [if_neg (fun hh => h ⟨hh.1, hh.2.1, hh.2.2.1, hh.2.2.2.1⟩)]
  unfold hamperref08_Key.f
  rw [e1]
  rfl

theorem toList_iff (x y : ByteArray) : x.toList = y.toList ↔ x = y := by
  constructor
  · intro e
    rw [Lib.toList_data, Lib.toList_data] at e
    exact ByteArray.ext (Array.toList_inj.1 e)
  · intro e; rw [e]
open Given Cbc in
theorem bt_gb (s : ByteArray) (i : Nat) (h : i < s.size) : bt s (i : Int) = ((Row.gb s.data.toList i).toNat : Int) := by
  have h2 : i < s.data.toList.length := h
  unfold bt Row.gb
  rw [dif_pos (by simpa using h), List.getD_eq_getElem?_getD, List.getElem?_eq_getElem h2]
  rfl
open Given Cbc in
theorem begins_iff (s : ByteArray) (b : UInt8) : begins s b = true ↔ 0 < s.size ∧ Row.gb s.data.toList 0 = b := by
  unfold begins Lib.hasPrefix
  rw [← toList_length]
  cases s.data.toList with
  | nil => simp
  | cons x l =>
    show ((b == x) && true) = true ↔ 0 < l.length + 1 ∧ x = b
    rw [Bool.and_true, beq_iff_eq]
    constructor
    · intro e; exact ⟨by omega, e.symm⟩
    · intro e; exact e.2.symm
open Given Cbc in
theorem open_some (s pw : ByteArray) (hs : s.size ≤ 1500) : ∃ x, seal_Open.f s pw = some x := by
  unfold seal_Open.f
  split
  · split <;> exact ⟨_, rfl⟩
  · split
    · exact ⟨_, rfl⟩
    · split
      · exact ⟨_, rfl⟩
      · split
        · exact ⟨_, rfl⟩
        · split
          · have ho : ∃ y, cbc_Open.f (Given.keyOf pw (s.extract 2 18) (roundsOf s)) (s.extract 18 34) (s.extract 42 s.size) = some y := by
              have hz : (s.extract 42 s.size).size ≤ 140737488351232 := by rw [ByteArray.size_extract]; omega
              unfold cbc_Open.f
              rw [if_pos hz]
              split
              · split
                · exact ⟨_, rfl⟩
                · exact ⟨_, rfl⟩
              · exact ⟨_, rfl⟩
            obtain ⟨y, hy⟩ := ho
            rw [hy]
            simp only [Option.bind_some]
            split <;> exact ⟨_, rfl⟩
          · exact ⟨_, rfl⟩
open Given Cbc in
theorem ref23_key (k : Nat) (s pw : ByteArray) (hs : s.size ≤ 1500) (h42 : 42 ≤ s.size) (hr1 : 1 ≤ roundsOf s) (hr2 : roundsOf s ≤ 64) (hp1 : 1 ≤ pw.size) (hp2 : pw.size ≤ 64) (hk : 1000 ≤ k) :
    hamperref23_Open.j2 (k + 1) s pw false = if signOf pw (s.extract 2 18) (roundsOf s) = s.extract 34 42 then (cbc_Open.f (Given.keyOf pw (s.extract 2 18) (roundsOf s)) (s.extract 18 34) (s.extract 42 s.size)).bind fun p => if p.2 = 0 then some (p.1, 0) else some (⟨#[]⟩, 4) else some (⟨#[]⟩, 61) := by
  have hbt : bt s 1 = roundsOf s := bt_gb s 1 (by omega)
  have hw : wrap64 (roundsOf s) = roundsOf s := by unfold wrap64; omega
  have hz : (s.extract 2 18).size = 16 := by rw [ByteArray.size_extract]; omega
  have hkey : hamperref08_Key.f pw (s.extract 2 18) (roundsOf s) = some (Given.keyOf pw (s.extract 2 18) (roundsOf s), signOf pw (s.extract 2 18) (roundsOf s), 0) := refKey_ok pw (s.extract 2 18) (roundsOf s) hp2 hz hr1 hr2
  have hz2 : (s.extract 42 s.size).size ≤ 1500 := by rw [ByteArray.size_extract]; omega
  have ho := refOpen_f k (Given.keyOf pw (s.extract 2 18) (roundsOf s)) (s.extract 18 34) (s.extract 42 s.size) (by omega) (by omega)
  rw [hamperref23_Open.j2, if_neg Bool.false_ne_true, if_pos (by decide), if_pos (by omega), if_pos (by omega), hbt, hw, hkey]
  simp only [Option.bind_some]
  rw [if_pos (by decide), if_pos (by omega)]
  simp only [toList_iff]
  by_cases h : signOf pw (s.extract 2 18) (roundsOf s) = s.extract 34 42
  · rw [if_pos h, if_pos h, if_pos (by decide), if_pos (by omega), ho]
  · rw [if_neg h, if_neg h]
open Given Cbc in
theorem refOpen23 (k : Nat) (s pw : ByteArray) (hs : s.size ≤ 1500) (hk : 1000 ≤ k) : hamperref23_Open.f (k + 1 + 1 + 1) s pw = seal_Open.f s pw := by
  have j0t : hamperref23_Open.j0 (k + 1 + 1 + 1) s pw true = some (⟨#[]⟩, 4) := by rw [hamperref23_Open.j0, if_pos rfl]
  have j1t : hamperref23_Open.j1 (k + 1 + 1) s pw true = some (⟨#[]⟩, 4) := by rw [hamperref23_Open.j1, if_pos rfl]
  have j2t : hamperref23_Open.j2 (k + 1) s pw true = some (⟨#[]⟩, 61) := by rw [hamperref23_Open.j2, if_pos rfl]
  unfold hamperref23_Open.f
  by_cases h0 : s.size = 0
  · have b0 : begins s 0 = false := by rw [Bool.eq_false_iff]; intro e; have := begins_size e; omega
    have b1 : begins s 1 = false := by rw [Bool.eq_false_iff]; intro e; have := begins_size e; omega
    rw [if_pos (by omega), j0t]
    unfold seal_Open.f
    rw [if_neg (by rw [b0]; exact Bool.noConfusion), if_pos (.inl b1)]
  have hbt : bt s 0 = ((Row.gb s.data.toList 0).toNat : Int) := bt_gb s 0 (by omega)
  have hwr : wrap64 ((s.size : Int) - 1) = (s.size : Int) - 1 := by unfold wrap64; omega
  rw [if_neg (by omega), if_pos (by omega)]
  by_cases c0 : begins s 0 = true
  · have e0 : bt s 0 = 0 := by rw [hbt, (begins_iff s 0).1 c0 |>.2]; rfl
    rw [if_neg (by omega), if_pos e0, hwr, decide_eq_false (by omega), hamperref23_Open.j0, if_neg Bool.false_ne_true, if_pos (by omega), if_pos e0, if_pos (by omega)]
    unfold seal_Open.f
    rw [if_pos c0, if_pos (by omega)]
  have n0 : bt s 0 ≠ 0 := by
    intro e
    apply c0
    rw [begins_iff]
    refine ⟨by omega, ?_⟩
    apply UInt8.toNat_inj.1
    rw [hbt] at e
    show _ = 0
    omega
  by_cases c1 : begins s 1 = true
  · have e1 : bt s 0 = 1 := by rw [hbt, (begins_iff s 1).1 c1 |>.2]; rfl
    rw [if_neg (by omega), if_neg n0, hamperref23_Open.j0, if_neg Bool.false_ne_true, if_pos (by omega), if_neg n0]
    unfold seal_Open.f
    rw [if_neg c0]
    by_cases h42 : s.size < 42
    · rw [if_pos (by omega), j1t, if_pos (.inr h42)]
    have hr : bt s 1 = roundsOf s := bt_gb s 1 (by omega)
    rw [if_neg (by omega), if_pos (by omega), if_neg (show ¬ (begins s 1 = false ∨ s.size < 42) from by rw [c1]; intro hh; rcases hh with hh | hh <;> first | exact Bool.noConfusion hh | omega), hr]
    by_cases r1 : roundsOf s < 1
    · rw [if_pos r1, j1t, if_pos (.inl r1)]
    by_cases r2 : roundsOf s > 64
    · rw [if_neg r1, decide_eq_true r2, j1t, if_pos (.inr r2)]
    rw [if_neg r1, decide_eq_false r2, if_neg (by omega), hamperref23_Open.j1, if_neg Bool.false_ne_true]
    by_cases p1 : pw.size = 0
    · rw [if_pos (by omega), j2t, if_pos (.inr p1)]
    by_cases p2 : 64 < pw.size
    · rw [if_neg (by omega), decide_eq_true (by omega), j2t, if_pos (.inl p2)]
    rw [if_neg (by omega), decide_eq_false (by omega), if_neg (by omega), ref23_key k s pw hs (by omega) (by omega) (by omega) (by omega) (by omega) hk]
  · have c1f : begins s 1 = false := by rw [Bool.eq_false_iff]; exact c1
    have n1 : bt s 0 ≠ 1 := by
      intro e
      apply c1
      rw [begins_iff]
      refine ⟨by omega, ?_⟩
      apply UInt8.toNat_inj.1
      rw [hbt] at e
      show _ = 1
      omega
    have hge : 0 ≤ bt s 0 := by rw [hbt]; omega
    rw [if_pos (by omega), j0t]
    unfold seal_Open.f
    rw [if_neg c0, if_pos (.inl c1f)]
open Given Cbc in
theorem locked_f (s : ByteArray) : seal_Locked.f s = some (begins s 1) := by
  have hp : ∀ a : ByteArray, strings_HasPrefix.f s a = stringslite_HasPrefix.f s a := fun a => by
    unfold strings_HasPrefix.f
    cases stringslite_HasPrefix.f s a <;> rfl
  unfold seal_Locked.f
  rw [hp]
  unfold stringslite_HasPrefix.f
  have hz : ((⟨#[1]⟩ : ByteArray).size : Int) = 1 := rfl
  rw [hz]
  by_cases h : s.size = 0
  · have b1 : begins s 1 = false := by rw [Bool.eq_false_iff]; intro e; have := begins_size e; omega
    rw [if_neg (by omega), b1]
    rfl
  · rw [if_pos (by omega), if_pos (by decide), if_pos (by omega)]
    show some _ = some _
    congr 1
    rw [Bool.eq_iff_iff, beq_iff_eq, toList_iff, begins_iff]
    constructor
    · intro e
      refine ⟨by omega, ?_⟩
      have e2 := congrArg (fun x : ByteArray => x.data.toList) e
      simp only [extract_list] at e2
      unfold Row.gb
      cases hl : s.data.toList with
      | nil => have := toList_length s; rw [hl] at this; simp at this; omega
      | cons x l => rw [hl] at e2; simpa using e2
    · intro ⟨_, e⟩
      apply ba_ext
      rw [extract_list]
      unfold Row.gb at e
      cases hl : s.data.toList with
      | nil => have := toList_length s; rw [hl] at this; simp at this; omega
      | cons x l => rw [hl] at e; simpa using e
open Given Cbc in
theorem SealOpens : hamperlaw23_SealOpens.Pure := by
  intro a0 a1 h0 h1
  unfold hamperlaw23_SealOpens.f
  refine ⟨1000 + 1 + 1 + 1 + 1, ?_⟩
  by_cases b0 : (a0.size : Int) > 1500
  · rw [if_pos b0, hamperlaw23_SealOpens.j0, if_pos rfl]
  by_cases b1 : (a1.size : Int) > 500
  · rw [if_neg b0, decide_eq_true b1, hamperlaw23_SealOpens.j0, if_pos rfl]
  rw [if_neg b0, decide_eq_false b1, hamperlaw23_SealOpens.j0, if_neg Bool.false_ne_true, refOpen23 1000 a0 a1 (by omega) (by decide)]
  obtain ⟨x, hx⟩ := open_some a0 a1 (by omega)
  rw [hx, locked_f]
  simp only [Option.bind_some, if_true]
  by_cases hz : a0.size = 0
  · have c1 : begins a0 1 = false := by rw [Bool.eq_false_iff]; intro e; have := begins_size e; omega
    rw [if_neg (by omega), c1]
    rfl
  · rw [if_pos (by omega), if_pos (by omega)]
    have hbt : bt a0 0 = ((Row.gb a0.data.toList 0).toNat : Int) := bt_gb a0 0 (by omega)
    congr 1
    rw [beq_iff_eq, Bool.eq_iff_iff, beq_iff_eq, begins_iff, hbt]
    constructor
    · intro ⟨_, e⟩; rw [e]; rfl
    · intro e
      refine ⟨by omega, ?_⟩
      apply UInt8.toNat_inj.1
      show _ = 1
      omega

end Go.Proofs.Ytdegeodegjmddaa.Pure
