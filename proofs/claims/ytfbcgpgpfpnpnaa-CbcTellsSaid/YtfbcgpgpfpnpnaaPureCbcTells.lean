/- Any data framed, sealed by any key and first block, and what any bytes are opened to, are the document's, or it is refused. Conditions: none but the statement's own. -/
import Derived.Test.YtfbcgpgpfpnpnaaPCbcTellsx3
namespace Go.Proofs.Ytfbcgpgpfpnpnaa.Pure
open Go.RowKit Go.Proofs.Ytfbcgpgpfpnpnaa.PCbcTells Go.Proofs.YtfbcgpgpfpnpnaaW.PrintWords Go.Proofs.YtfbcgpgpfpnpnaaW.PrintLast Go.Proofs.YtfbcgpgpfpnpnaaW.PrintMore

set_option linter.unusedVariables false
set_option linter.unusedSimpArgs false

/-! the document's frames and chains (hamperref10) -/
section ref10
open Given Cbc
/-- bytes as numbers -/
def nb (l : List UInt8) : List Int := l.map fun b => (b.toNat : Int)
theorem nb_length (l : List UInt8) : (nb l).length = l.length := by simp [nb]
theorem nb_bytes (s : ByteArray) : bytesOf s = nb s.data.toList := rfl
theorem nb_app (a b : List UInt8) : nb a ++ nb b = nb (a ++ b) := by simp [nb]
theorem str_nb (l : List UInt8) : strOfNums (nb l) = bs l := by
  unfold strOfNums nb bs
  rw [List.map_map]
  congr 1
  have e : ((fun x : Int => UInt8.ofNat x.toNat) ∘ fun b : UInt8 => (b.toNat : Int)) = id := by
    funext b
    simp
  first
    | rw [e, List.map_id]
    | simp
theorem frame_f (a : ByteArray) (ha : a.size ≤ 140737488351232) : ref10_Frame.f a = some (frameW a) := by
  unfold ref10_Frame.f
  rw [if_pos ha]
theorem xor_f (a b : ByteArray) (ha : a.size = 16) (hb : b.size = 16) : ref10_xor.f a b = some (xorW a b) := by
  unfold ref10_xor.f
  rw [if_pos ⟨ha, hb⟩]
theorem enc_f (k b : ByteArray) (hk : k.size = 32) (hb : b.size = 16) : ref09_Encrypt.f k b = some (encW k b) := by
  unfold ref09_Encrypt.f
  rw [if_pos ⟨hk, hb⟩]
theorem dec_f (k b : ByteArray) (hk : k.size = 32) (hb : b.size = 16) : ref09_Decrypt.f k b = some (decW k b) := by
  unfold ref09_Decrypt.f
  rw [if_pos ⟨hk, hb⟩]
theorem blocks_drop (s : ByteArray) (j : Nat) (hj : j < s.size / 16) : (blocksOf s).drop j = s.extract (16 * j) (16 * j + 16) :: (blocksOf s).drop (j + 1) := by
  have hl : j < (blocksOf s).length := by rw [blocksOf_length]; exact hj
  rw [List.drop_eq_getElem_cons hl]
  congr 1
  simp [blocksOf]
theorem seal_loop (key x : ByteArray) (hk : key.size = 32) (hm : x.size % 16 = 0) (hx : x.size ≤ 1099511627776) : ∀ d j, j + d = x.size / 16 → ∀ (st : List UInt8 × ByteArray) (k : Nat), st.2.size = 16 → st.1.length = 16 * j → d < k →
    hamperref10_Seal.l0 k key x (nb st.1) st.2 ((16 * j : Nat) : Int) = some (bs (((blocksOf x).drop j).foldl (sealGo key) st).1, 0) := by
  intro d
  induction d with
  | zero =>
    intro j hj st k h2 h1 hk0
    obtain ⟨k, rfl⟩ : ∃ m, k = m + 1 := ⟨k - 1, by omega⟩
    rw [hamperref10_Seal.l0, if_neg (by omega), str_nb, List.drop_of_length_le (by rw [blocksOf_length]; omega)]
    rfl
  | succ d ih =>
    intro j hj st k h2 h1 hk0
    obtain ⟨k, rfl⟩ : ∃ m, k = m + 1 := ⟨k - 1, by omega⟩
    have hw : wrap64 (((16 * j : Nat) : Int) + 16) = ((16 * j + 16 : Nat) : Int) := by unfold wrap64; omega
    have hb : (x.extract (16 * j) (16 * j + 16)).size = 16 := by rw [ByteArray.size_extract]; omega
    rw [hamperref10_Seal.l0, if_pos (by omega), if_pos (by omega), hw, if_pos (by omega), if_pos (by omega), Int.toNat_natCast, Int.toNat_natCast, xor_f _ _ hb h2]
    simp only [Option.bind_some]
    rw [enc_f _ _ hk (xorW_size _ _ hb h2)]
    simp only [Option.bind_some]
    rw [if_pos (by rw [nb_length, encW_size, h1]; omega), nb_bytes, nb_app]
    have := ih (j + 1) (by omega) (sealGo key st (x.extract (16 * j) (16 * j + 16))) k (encW_size _ _) (by simp only [sealGo, List.length_append, toList_length, encW_size, h1]; omega) (by omega)
    rw [show 16 * (j + 1) = 16 * j + 16 by omega] at this
    rw [blocks_drop x j (by omega), List.foldl_cons]
    exact this
theorem refSeal_f (k : Nat) (key first data : ByteArray) (hd : data.size ≤ 140737488351232) (hk : 70000 ≤ k) : hamperref10_Seal.f k key first data = cbc_Seal.f key first data := by
  obtain ⟨k, rfl⟩ : ∃ m, k = m + 10 := ⟨k - 10, by omega⟩
  unfold hamperref10_Seal.f cbc_Seal.f
  by_cases hkk : key.size = 32
  · rw [if_pos (by omega)]
    by_cases hf : first.size = 16
    · have e : ((first.size : Int) != 16) = false := by rw [hf]; rfl
      rw [e, if_pos ⟨hkk, hf⟩]
      show hamperref10_Seal.j0 (k + 9 + 1) _ _ _ _ = _
      rw [hamperref10_Seal.j0, if_neg Bool.false_ne_true]
      by_cases hl : data.size ≤ 1048576
      · rw [if_neg (by omega), if_pos hl, frame_f data (by omega)]
        simp only [Option.bind_some]
        have h1 := frameW_size data
        have h2 := frameW_mod data
        have h3 : pad data.size < 16 := by unfold pad; omega
        have := seal_loop key (frameW data) hkk h2 (by omega) ((frameW data).size / 16) 0 (by omega) ([], first) (k + 9) hf rfl (by omega)
        rw [List.drop_zero] at this
        exact this
      · rw [if_pos (by omega), if_neg hl]
    · have e : ((first.size : Int) != 16) = true := by rw [bne_iff_ne]; omega
      rw [e, if_neg (fun h => hf h.2)]
      show hamperref10_Seal.j0 (k + 9 + 1) _ _ _ _ = _
      rw [hamperref10_Seal.j0, if_pos rfl]
  · rw [if_neg (by omega), if_neg (fun h => hkk h.1)]
    show hamperref10_Seal.j0 (k + 9 + 1) _ _ _ _ = _
    rw [hamperref10_Seal.j0, if_pos rfl]
theorem open_loop (key x : ByteArray) (hk : key.size = 32) (hm : x.size % 16 = 0) (hx : x.size ≤ 1099511627776) : ∀ d j, j + d = x.size / 16 → ∀ (st : List UInt8 × ByteArray) (k : Nat), st.2.size = 16 → st.1.length = 16 * j →
    hamperref10_Open.l0 (k + d + 1) key x (nb st.1) st.2 ((16 * j : Nat) : Int) = hamperref10_Open.l1 k (nb (((blocksOf x).drop j).foldl (openGo key) st).1) 0 0 := by
  intro d
  induction d with
  | zero =>
    intro j hj st k h2 h1
    rw [Nat.add_zero, hamperref10_Open.l0, if_neg (by omega), List.drop_of_length_le (by rw [blocksOf_length]; omega)]
    rfl
  | succ d ih =>
    intro j hj st k h2 h1
    have hw : wrap64 (((16 * j : Nat) : Int) + 16) = ((16 * j + 16 : Nat) : Int) := by unfold wrap64; omega
    have hb : (x.extract (16 * j) (16 * j + 16)).size = 16 := by rw [ByteArray.size_extract]; omega
    rw [show k + (d + 1) + 1 = (k + d + 1) + 1 by omega, hamperref10_Open.l0, if_pos (by omega), if_pos (by omega), hw, if_pos (by omega), if_pos (by omega), Int.toNat_natCast, Int.toNat_natCast, dec_f _ _ hk hb]
    simp only [Option.bind_some]
    rw [xor_f _ _ (decW_size _ _) h2]
    simp only [Option.bind_some]
    rw [if_pos (by rw [nb_length, xorW_size _ _ (decW_size _ _) h2, h1]; omega), nb_bytes, nb_app]
    have := ih (j + 1) (by omega) (openGo key st (x.extract (16 * j) (16 * j + 16))) k hb (by simp only [openGo, List.length_append, toList_length, xorW_size _ _ (decW_size _ _) h2, h1]; omega)
    rw [show 16 * (j + 1) = 16 * j + 16 by omega] at this
    rw [blocks_drop x j (by omega), List.foldl_cons]
    exact this
theorem numL_take (l : List UInt8) (i : Nat) (h : i < l.length) : numL (l.take (i + 1)) = numL (l.take i) * 256 + l[i].toNat := by
  rw [← List.take_append_getElem h, numL_snoc]
theorem numL_grow (l : List UInt8) : ∀ d i, i + d ≤ l.length → numL (l.take i) ≤ numL (l.take (i + d))
  | 0, i, _ => Nat.le_refl _
  | d + 1, i, h => by
    have h1 := numL_grow l d i (by omega)
    have h2 := numL_take l (i + d) (by omega)
    rw [← Nat.add_assoc, h2]
    omega
theorem rd_nb (l : List UInt8) (i : Nat) (h : i < l.length) : rd (nb l) (i : Int) = (l[i].toNat : Int) := by
  simp [rd, nb, List.getD_eq_getElem?_getD, h]
/-- What stands behind the eight bytes' loop. -/
def behind (l : List UInt8) : ByteArray × Int := if 1048576 < numL (l.take 8) ∨ l.length - 8 < numL (l.take 8) then (⟨#[]⟩, 4) else if (frameW (bs ((l.take (8 + numL (l.take 8))).drop 8))).toList = (bs l).toList then (bs ((l.take (8 + numL (l.take 8))).drop 8), 0) else (⟨#[]⟩, 4)
theorem open_num (l : List UInt8) (h8 : 8 ≤ l.length) (hl : l.length ≤ 1099511627776) : ∀ d i, i + d = 8 → ∀ k, 20 ≤ k → numL (l.take i) ≤ 1048576 →
    hamperref10_Open.l1 (k + d) (nb l) ((numL (l.take i) : Nat) : Int) (i : Int) = some (behind l) := by
  intro d
  induction d with
  | zero =>
    intro i hi k hk hn
    obtain ⟨k, rfl⟩ : ∃ m, k = m + 10 := ⟨k - 10, by omega⟩
    have hi8 : i = 8 := by omega
    subst hi8
    rw [Nat.add_zero]
    show hamperref10_Open.l1 (k + 9 + 1) _ _ _ = _
    have hw1 : wrap64 (((nb l).length : Int) - 8) = ((l.length - 8 : Nat) : Int) := by rw [nb_length]; unfold wrap64; omega
    have hw2 : wrap64 (8 + ((numL (l.take 8) : Nat) : Int)) = ((8 + numL (l.take 8) : Nat) : Int) := by unfold wrap64; omega
    rw [hamperref10_Open.l1, if_neg (by omega), hw1]
    unfold behind
    by_cases hb : l.length - 8 < numL (l.take 8)
    · rw [if_pos (by omega), if_pos (.inr hb)]
    · rw [if_neg (by omega), hw2, if_pos (by omega), if_pos (by rw [nb_length]; omega), if_neg (show ¬ (1048576 < numL (l.take 8) ∨ l.length - 8 < numL (l.take 8)) by omega), Int.toNat_natCast]
      simp only [Option.bind_some]
      have e : ((nb l).take (8 + numL (l.take 8))).drop 8 = nb ((l.take (8 + numL (l.take 8))).drop 8) := by simp [nb]
      rw [e, str_nb, str_nb, frame_f _ (by rw [bs_size, List.length_drop, List.length_take]; omega)]
      simp only [Option.bind_some]
      by_cases hf : (frameW (bs ((l.take (8 + numL (l.take 8))).drop 8))).toList = (bs l).toList
      · rw [if_pos hf, if_pos hf]
      · rw [if_neg hf, if_neg hf]
  | succ d ih =>
    intro i hi k hk hn
    have hil : i < l.length := by omega
    have hb := l[i].toNat_lt
    have hw : wrap64 (wrap64 (((numL (l.take i) : Nat) : Int) * 256) + wrap64 (rd (nb l) (i : Int))) = ((numL (l.take (i + 1)) : Nat) : Int) := by
      rw [rd_nb l i hil, numL_take l i hil]
      unfold wrap64
      omega
    have hw1 : wrap64 ((i : Int) + 1) = ((i + 1 : Nat) : Int) := by unfold wrap64; omega
    rw [show k + (d + 1) = (k + d) + 1 by omega, hamperref10_Open.l1, if_pos (by omega), if_pos (by omega), if_pos (by rw [nb_length]; omega), hw, hw1]
    by_cases hbig : numL (l.take (i + 1)) ≤ 1048576
    · rw [if_neg (by omega)]
      exact ih (i + 1) (by omega) k hk hbig
    · rw [if_pos (by omega)]
      unfold behind
      have := numL_grow l (8 - (i + 1)) (i + 1) (by omega)
      rw [show i + 1 + (8 - (i + 1)) = 8 by omega] at this
      rw [if_pos (.inl (by omega))]
theorem behind_open (key first s : ByteArray) (hf : first.size = 16) (h0 : s.size ≠ 0) (hm : s.size % 16 = 0) : behind (openB key first (blocksOf s)).1 = openR key first s := by
  obtain ⟨l, hl⟩ : ∃ l, l = (openB key first (blocksOf s)).1 := ⟨_, rfl⟩
  have hz : (bs l).size = l.length := bs_size l
  have ht : (bs l).data.toList = l := bs_toList l
  have hx : ∀ n, (bs l).extract 8 (8 + n) = bs ((l.take (8 + n)).drop 8) := fun n => by
    apply ba_ext
    rw [extract_list, ht, bs_toList]
  unfold openR behind unframeR
  rw [← hl, hz, ht, hx]
  by_cases hc : 1048576 < numL (l.take 8) ∨ l.length - 8 < numL (l.take 8)
  · rw [if_pos hc, if_pos (Or.comm.1 hc), if_neg (by simp)]
  · rw [if_neg hc, if_neg (fun h => hc (Or.comm.1 h))]
    by_cases he : (frameW (bs ((l.take (8 + numL (l.take 8))).drop 8))).toList = (bs l).toList
    · rw [if_pos he, if_pos (by simpa using he)]
    · rw [if_neg he, if_neg (by simpa using he)]
theorem refOpen_f (k : Nat) (key first s : ByteArray) (hs : s.size ≤ 1099511627776) (hk : s.size / 16 + 100 ≤ k) : hamperref10_Open.f k key first s = cbc_Open.f key first s := by
  obtain ⟨k, rfl⟩ : ∃ m, k = m + 2 := ⟨k - 2, by omega⟩
  unfold hamperref10_Open.f cbc_Open.f
  by_cases hkk : key.size = 32
  · rw [if_pos (by omega)]
    by_cases hf : first.size = 16
    · have e : ((first.size : Int) != 16) = false := by rw [hf]; rfl
      rw [e, if_pos ⟨hkk, hf⟩]
      show hamperref10_Open.j0 (k + 1 + 1) _ _ _ _ = _
      rw [hamperref10_Open.j0, if_neg Bool.false_ne_true]
      by_cases h0 : s.size = 0
      · rw [if_pos (by omega), hamperref10_Open.j1, if_pos rfl, if_pos (.inl h0)]
      · rw [if_neg (by omega)]
        by_cases hm : s.size % 16 = 0
        · have e2 : (((s.size : Int) % 16) != 0) = false := by rw [bne_eq_false_iff_eq]; omega
          rw [e2, hamperref10_Open.j1, if_neg Bool.false_ne_true, if_neg (by omega), if_pos (by omega)]
          obtain ⟨q, hq⟩ : ∃ q, k = (q + 8) + (s.size / 16) + 1 := ⟨k - 9 - s.size / 16, by omega⟩
          have h1 := open_loop key s hkk hm hs (s.size / 16) 0 (by omega) ([], first) (q + 8) hf rfl
          rw [← hq] at h1
          have hlen : (openB key first (blocksOf s)).1.length = s.size := by
            rw [openB_length key first hf _ (fun b hb => blocksOf_size s b hb), blocksOf_length]
            omega
          have h2 := open_num (openB key first (blocksOf s)).1 (by omega) (by omega) 8 0 rfl q (by omega) (by simp [numL])
          rw [behind_open key first s hf h0 hm] at h2
          show hamperref10_Open.l0 k key s (nb []) first ((16 * 0 : Nat) : Int) = _
          rw [h1, List.drop_zero]
          exact h2
        · have e2 : (((s.size : Int) % 16) != 0) = true := by rw [bne_iff_ne]; omega
          rw [e2, hamperref10_Open.j1, if_pos rfl, if_pos (.inr hm)]
    · have e : ((first.size : Int) != 16) = true := by rw [bne_iff_ne]; omega
      rw [e, if_neg (fun h => hf h.2)]
      show hamperref10_Open.j0 (k + 1 + 1) _ _ _ _ = _
      rw [hamperref10_Open.j0, if_pos rfl]
  · rw [if_neg (by omega), if_neg (fun h => hkk h.1)]
    show hamperref10_Open.j0 (k + 1 + 1) _ _ _ _ = _
    rw [hamperref10_Open.j0, if_pos rfl]
end ref10

open Given Cbc in
theorem CbcTells : hamperlaw10_CbcTells.Pure := by
  intro a0 a1 a2 a3 h0 h1 h2 h3
  unfold hamperlaw10_CbcTells.f
  by_cases b0 : (a0.size : Int) > 100
  · exact ⟨1, by rw [if_pos b0]; simp [hamperlaw10_CbcTells.j0, law10_awake.f]⟩
  by_cases b1 : (a1.size : Int) > 100
  · exact ⟨1, by rw [if_neg b0, if_pos b1]; simp [hamperlaw10_CbcTells.j0, law10_awake.f]⟩
  by_cases b2 : (a2.size : Int) > 600
  · exact ⟨1, by rw [if_neg b0, if_neg b1, if_pos b2]; simp [hamperlaw10_CbcTells.j0, law10_awake.f]⟩
  by_cases b3 : (a3.size : Int) > 600
  · exact ⟨1, by rw [if_neg b0, if_neg b1, if_neg b2, decide_eq_true b3]; simp [hamperlaw10_CbcTells.j0, law10_awake.f]⟩
  refine ⟨80000 + 1, ?_⟩
  rw [if_neg b0, if_neg b1, if_neg b2, decide_eq_false b3, hamperlaw10_CbcTells.j0, if_neg Bool.false_ne_true, refSeal_f 80000 a0 a1 a2 h2 (by decide), refOpen_f 80000 a0 a1 a3 (by omega) (by omega), frame_f a2 (by omega)]
  have hfr : cbc_Frame.f a2 = some (frameW a2) := by unfold cbc_Frame.f; rw [if_pos h2]
  rw [hfr]
  have hs : ∃ x, cbc_Seal.f a0 a1 a2 = some x := by
    unfold cbc_Seal.f
    split
    · split
      · exact ⟨_, rfl⟩
      · exact ⟨_, rfl⟩
    · exact ⟨_, rfl⟩
  have ho : ∃ x, cbc_Open.f a0 a1 a3 = some x := by
    unfold cbc_Open.f
    rw [if_pos h3]
    split
    · split
      · exact ⟨_, rfl⟩
      · exact ⟨_, rfl⟩
    · exact ⟨_, rfl⟩
  obtain ⟨x, hx⟩ := hs
  obtain ⟨y, hy⟩ := ho
  rw [hx, hy]
  simp [law10_awake.f]

end Go.Proofs.Ytfbcgpgpfpnpnaa.Pure
