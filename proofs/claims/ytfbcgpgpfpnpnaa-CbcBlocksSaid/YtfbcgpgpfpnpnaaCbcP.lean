/- The plain law of chains: opening undoes sealing, and the other way round. Conditions: keys of 32 bytes, blocks of 16. -/
import Derived.Test.YtfbcgpgpfpnpnaaCbcF
namespace Go.Proofs.Ytfbcgpgpfpnpnaa.Given
open Go.Proofs.Ytfbcgpgpfpnpnaa.Row Go.Proofs.Ytfbcgpgpfpnpnaa.Aes Go.Proofs.Ytfbcgpgpfpnpnaa.Cbc
set_option linter.unusedVariables false
set_option linter.unusedSimpArgs false
/-- Blocks, one behind the other. -/
def cat (l : List ByteArray) : List UInt8 := l.flatMap (·.data.toList)
theorem cat_cons (b : ByteArray) (l : List ByteArray) : cat (b :: l) = b.data.toList ++ cat l := by simp [cat]
theorem cat_append (l m : List ByteArray) : cat (l ++ m) = cat l ++ cat m := by simp [cat]
theorem cat_length (l : List ByteArray) (h : ∀ b ∈ l, b.size = 16) : (cat l).length = 16 * l.length := by
  induction l with
  | nil => rfl
  | cons b l ih =>
    rw [cat_cons, List.length_append, toList_length, h b (List.mem_cons_self ..), ih (fun c hc => h c (List.mem_cons_of_mem _ hc)), List.length_cons]
    omega
theorem ba_ext {a b : ByteArray} (h : a.data.toList = b.data.toList) : a = b := by rw [← bs_data a, ← bs_data b, h]
theorem extract_list (s : ByteArray) (i j : Nat) : (s.extract i j).data.toList = (s.data.toList.take j).drop i := by
  rw [ByteArray.data_extract, Array.toList_extract, List.extract_eq_take_drop, List.drop_take]
/-- The blocks of blocks are these. -/
theorem blocksOf_cat (l : List ByteArray) (h : ∀ b ∈ l, b.size = 16) : blocksOf (bs (cat l)) = l := by
  have hl := cat_length l h
  apply List.ext_getElem?
  intro j
  by_cases hj : j < l.length
  · have hj2 : j < (bs (cat l)).size / 16 := by rw [bs_size, hl]; omega
    rw [blocksOf, List.getElem?_map, List.getElem?_range hj2, List.getElem?_eq_getElem hj]
    simp only [Option.map_some, Option.some.injEq]
    apply ba_ext
    rw [extract_list, bs_toList]
    have e : l = l.take j ++ l[j] :: l.drop (j + 1) := by rw [List.getElem_cons_drop, List.take_append_drop]
    have h1 : (cat (l.take j)).length = 16 * j := by rw [cat_length _ (fun b hb => h b (List.mem_of_mem_take hb)), List.length_take, Nat.min_eq_left (by omega)]
    have h2 : l[j].data.toList.length = 16 := by rw [toList_length, h _ (List.getElem_mem hj)]
    have e2 : cat l = cat (l.take j) ++ (l[j].data.toList ++ cat (l.drop (j + 1))) := by
      conv => lhs; rw [e]
      rw [cat_append, cat_cons]
    rw [e2, ← List.append_assoc, List.take_append_of_le_length (by rw [List.length_append, h1, h2]; exact Nat.le_refl _), List.take_of_length_le (by rw [List.length_append, h1, h2]; exact Nat.le_refl _), ← h1, List.drop_left]
  · have hj2 : ¬ j < (bs (cat l)).size / 16 := by rw [bs_size, hl]; omega
    rw [List.getElem?_eq_none (by rw [blocksOf_length]; omega), List.getElem?_eq_none (by omega)]
/-- A text of whole blocks is its blocks. -/
theorem cat_blocksOf (s : ByteArray) (h : s.size % 16 = 0) : cat (blocksOf s) = s.data.toList := by
  have key : ∀ n, 16 * n ≤ s.size → cat ((List.range n).map fun k => s.extract (16 * k) (16 * k + 16)) = s.data.toList.take (16 * n) := by
    intro n
    induction n with
    | zero => intro _; rfl
    | succ n ih =>
      intro hn
      rw [List.range_succ, List.map_append, cat_append, ih (by omega)]
      simp only [List.map_cons, List.map_nil, cat_cons]
      rw [extract_list]
      have : cat [] = [] := rfl
      rw [this, List.append_nil]
      have e : 16 * (n + 1) = 16 * n + 16 := by omega
      rw [e]
      conv => rhs; rw [← List.take_append_drop (16 * n) (List.take (16 * n + 16) s.data.toList)]
      rw [List.take_take, Nat.min_eq_left (by omega)]
  rw [blocksOf, key _ (by omega), List.take_of_length_le]
  rw [toList_length]
  omega
/-- Sealed blocks; opened ones. -/
def chainC (key : ByteArray) : ByteArray → List ByteArray → List ByteArray
  | _, [] => []
  | last, b :: l => encW key (xorW b last) :: chainC key (encW key (xorW b last)) l
def plainC (key : ByteArray) : ByteArray → List ByteArray → List ByteArray
  | _, [] => []
  | last, b :: l => xorW (decW key b) last :: plainC key b l
theorem sealF_chain (key : ByteArray) (l : List ByteArray) : ∀ st, (l.foldl (sealGo key) st).1 = st.1 ++ cat (chainC key st.2 l) := by
  induction l with
  | nil => intro st; simp [chainC, cat]
  | cons b l ih =>
    intro st
    rw [List.foldl_cons, ih, chainC, cat_cons]
    simp only [sealGo, List.append_assoc]
theorem sealB_chain (key first : ByteArray) (l : List ByteArray) : (sealB key first l).1 = cat (chainC key first l) := by rw [sealB, sealF_chain]; rfl
theorem openF_plain (key : ByteArray) (l : List ByteArray) : ∀ st, (l.foldl (openGo key) st).1 = st.1 ++ cat (plainC key st.2 l) := by
  induction l with
  | nil => intro st; simp [plainC, cat]
  | cons b l ih =>
    intro st
    rw [List.foldl_cons, ih, plainC, cat_cons]
    simp only [openGo, List.append_assoc]
theorem openB_plain (key first : ByteArray) (l : List ByteArray) : (openB key first l).1 = cat (plainC key first l) := by rw [openB, openF_plain]; rfl
theorem chainC_length (key : ByteArray) (l : List ByteArray) : ∀ last, (chainC key last l).length = l.length := by
  induction l with
  | nil => intro _; rfl
  | cons b l ih => intro last; simp [chainC, ih]
theorem chainC_size (key : ByteArray) (l : List ByteArray) : ∀ last, ∀ b ∈ chainC key last l, b.size = 16 := by
  induction l with
  | nil => intro _ b hb; simp [chainC] at hb
  | cons b l ih =>
    intro last c hc
    simp only [chainC, List.mem_cons] at hc
    rcases hc with rfl | hc
    · exact encW_size _ _
    · exact ih _ c hc
theorem plainC_length (key : ByteArray) (l : List ByteArray) : ∀ last, (plainC key last l).length = l.length := by
  induction l with
  | nil => intro _; rfl
  | cons b l ih => intro last; simp [plainC, ih]
theorem plainC_size (key : ByteArray) (l : List ByteArray) (h : ∀ b ∈ l, b.size = 16) : ∀ last, last.size = 16 → ∀ b ∈ plainC key last l, b.size = 16 := by
  induction l with
  | nil => intro _ _ b hb; simp [plainC] at hb
  | cons b l ih =>
    intro last hl c hc
    simp only [plainC, List.mem_cons] at hc
    rcases hc with rfl | hc
    · exact xorW_size _ _ (decW_size _ _) hl
    · exact ih (fun d hd => h d (List.mem_cons_of_mem _ hd)) b (h b (List.mem_cons_self ..)) c hc
theorem xor_xor (a b : ByteArray) (ha : a.size = 16) (hb : b.size = 16) : xorW (xorW a b) b = a := by
  apply ba_ext
  rw [xorW, xorW, bs_toList, bs_toList]
  apply List.ext_getElem?
  intro j
  have h1 : a.data.toList.length = 16 := by rw [toList_length, ha]
  have h2 : b.data.toList.length = 16 := by rw [toList_length, hb]
  simp only [xorL, List.getElem?_zipWith]
  by_cases hj : j < 16
  · rw [List.getElem?_eq_getElem (by omega), List.getElem?_eq_getElem (by omega)]
    simp only [Option.some.injEq]
    rw [UInt8.xor_assoc, UInt8.xor_self, UInt8.xor_zero]
  · rw [List.getElem?_eq_none (by omega), List.getElem?_eq_none (by omega)]
theorem plain_chain (key : ByteArray) (hk : key.size = 32) (l : List ByteArray) (h : ∀ b ∈ l, b.size = 16) : ∀ last, last.size = 16 → plainC key last (chainC key last l) = l := by
  induction l with
  | nil => intro _ _; rfl
  | cons b l ih =>
    intro last hl
    have hb := h b (List.mem_cons_self ..)
    rw [chainC, plainC, decW_encW _ _ hk (xorW_size _ _ hb hl), xor_xor _ _ hb hl, ih (fun d hd => h d (List.mem_cons_of_mem _ hd)) _ (encW_size _ _)]
theorem chain_plain (key : ByteArray) (hk : key.size = 32) (l : List ByteArray) (h : ∀ b ∈ l, b.size = 16) : ∀ last, last.size = 16 → chainC key last (plainC key last l) = l := by
  induction l with
  | nil => intro _ _; rfl
  | cons b l ih =>
    intro last hl
    have hb := h b (List.mem_cons_self ..)
    rw [plainC, chainC, xor_xor _ _ (decW_size _ _) hl, encW_decW _ _ hk hb, ih (fun d hd => h d (List.mem_cons_of_mem _ hd)) _ hb]
/-- A frame, sealed. -/
def sealW (key first data : ByteArray) : ByteArray := bs (cat (chainC key first (blocksOf (frameW data))))
theorem frameW_size (d : ByteArray) : (frameW d).size = 8 + d.size + pad d.size := by rw [frameW, bs_size, frameL_length, toList_length]
theorem frameW_mod (d : ByteArray) : (frameW d).size % 16 = 0 := by rw [frameW, bs_size]; exact frameL_mod _
theorem sealW_size (key first data : ByteArray) : (sealW key first data).size = (frameW data).size := by
  rw [sealW, bs_size, cat_length _ (chainC_size _ _ _), chainC_length, blocksOf_length]
  have := frameW_mod data
  omega
theorem blocks_sealW (key first data : ByteArray) : blocksOf (sealW key first data) = chainC key first (blocksOf (frameW data)) := blocksOf_cat _ (chainC_size _ _ _)
theorem seal_f (key first data : ByteArray) (hk : key.size = 32) (hf : first.size = 16) (hd : data.size ≤ 1048576) : cbc_Seal.f key first data = some (sealW key first data, 0) := by
  unfold cbc_Seal.f
  rw [if_pos ⟨hk, hf⟩, if_pos hd, sealB_chain, sealW]
theorem seal_f_arg (key first data : ByteArray) (h : ¬ (key.size = 32 ∧ first.size = 16)) : cbc_Seal.f key first data = some (⟨#[]⟩, 1) := by
  unfold cbc_Seal.f
  rw [if_neg h]
theorem be8_num (n : Nat) (h : n < 256 ^ 8) : numL (be8 n) = n := by
  simp only [be8, numL, List.range_succ, List.range_zero, List.nil_append, List.cons_append, List.map_cons, List.map_nil, List.foldl_cons, List.foldl_nil, UInt8.toNat_ofNat', Nat.reduceSub, Nat.reduceMul, Nat.reducePow]
  omega
theorem frame_take8 (d : ByteArray) : (frameW d).data.toList.take 8 = be8 d.size := by
  rw [frameW, bs_toList, frameL, List.append_assoc, List.take_append_of_le_length (by rw [be8_length]; exact Nat.le_refl _), List.take_of_length_le (by rw [be8_length]; exact Nat.le_refl _), toList_length]
theorem frame_data (d : ByteArray) : (frameW d).extract 8 (8 + d.size) = d := by
  apply ba_ext
  rw [extract_list, frameW, bs_toList, frameL, List.append_assoc]
  have h1 : (be8 d.data.toList.length).length = 8 := be8_length _
  rw [List.take_append, h1, List.take_of_length_le (by omega), List.drop_append, h1, List.drop_of_length_le (by omega)]
  simp only [Nat.sub_self, List.drop_zero, List.nil_append]
  rw [show 8 + d.size - 8 = d.data.toList.length from by rw [toList_length]; omega, List.take_left]
/-- The data of a frame are these. -/
theorem unframe_frame (d : ByteArray) (hd : d.size ≤ 1048576) : unframeR (frameW d) = (d, true) := by
  have hn : numL ((frameW d).data.toList.take 8) = d.size := by rw [frame_take8, be8_num _ (by omega)]
  unfold unframeR
  rw [hn, if_neg (by rw [frameW_size]; omega), frame_data]
  simp
theorem unframe_true (s c : ByteArray) (h : unframeR s = (c, true)) : frameW c = s ∧ c.size ≤ 1048576 := by
  unfold unframeR at h
  split at h
  · cases h
  · rename_i hc
    simp only [Prod.mk.injEq] at h
    obtain ⟨rfl, h2⟩ := h
    refine ⟨toList_inj (by simpa using h2), ?_⟩
    rw [ByteArray.size_extract]
    omega
theorem open_f (key first s : ByteArray) (hk : key.size = 32) (hf : first.size = 16) (h0 : s.size ≠ 0) (hm : s.size % 16 = 0) (hs : s.size ≤ 140737488351232) : cbc_Open.f key first s = some (openR key first s) := by
  unfold cbc_Open.f
  rw [if_pos ⟨hk, hf⟩, if_neg (by omega), if_pos hs]
theorem open_f_arg (key first s : ByteArray) (h : ¬ (key.size = 32 ∧ first.size = 16)) : cbc_Open.f key first s = some (⟨#[]⟩, 1) := by
  unfold cbc_Open.f
  rw [if_neg h]
theorem open_f_form (key first s : ByteArray) (hk : key.size = 32) (hf : first.size = 16) (h : s.size = 0 ∨ s.size % 16 ≠ 0) : cbc_Open.f key first s = some (⟨#[]⟩, 4) := by
  unfold cbc_Open.f
  rw [if_pos ⟨hk, hf⟩, if_pos h]
/-- Opening what is sealed. -/
theorem open_seal (key first data : ByteArray) (hk : key.size = 32) (hf : first.size = 16) (hd : data.size ≤ 1048576) : openR key first (sealW key first data) = (data, 0) := by
  have e : bs (openB key first (blocksOf (sealW key first data))).1 = frameW data := by
    rw [openB_plain, blocks_sealW, plain_chain key hk _ (fun b hb => blocksOf_size _ b hb) first hf, cat_blocksOf _ (frameW_mod data), bs_data]
  unfold openR
  rw [e, unframe_frame data hd]
  rfl
/-- Sealing what is opened. -/
theorem seal_open (key first s c : ByteArray) (hk : key.size = 32) (hf : first.size = 16) (hm : s.size % 16 = 0) (h : openR key first s = (c, 0)) : sealW key first c = s ∧ c.size ≤ 1048576 := by
  unfold openR at h
  split at h
  · rename_i hu
    simp only [Prod.mk.injEq, and_true] at h
    obtain ⟨h1, h2⟩ := unframe_true _ c (Prod.ext h hu)
    refine ⟨?_, h2⟩
    have hp := plainC_size key (blocksOf s) (fun b hb => blocksOf_size _ b hb) first hf
    rw [sealW, h1, openB_plain, blocksOf_cat _ hp, chain_plain key hk _ (fun b hb => blocksOf_size _ b hb) first hf, cat_blocksOf _ hm, bs_data]
  · simp at h
/-- A sealed text without its last block is refused. -/
theorem plainC_take (key : ByteArray) (n : Nat) : ∀ (l : List ByteArray) last, plainC key last (l.take n) = (plainC key last l).take n := by
  induction n with
  | zero => intro l last; simp [plainC]
  | succ n ih =>
    intro l last
    cases l with
    | nil => simp [plainC]
    | cons b l => simp [plainC, ih]
theorem blocksOf_take (s : ByteArray) (n : Nat) (h : 16 * n ≤ s.size) : blocksOf (s.extract 0 (16 * n)) = (blocksOf s).take n := by
  have hs : (s.extract 0 (16 * n)).size = 16 * n := by rw [ByteArray.size_extract]; omega
  apply List.ext_getElem?
  intro j
  rw [List.getElem?_take]
  by_cases hj : j < n
  · rw [if_pos hj, blocksOf, blocksOf, List.getElem?_map, List.getElem?_map, List.getElem?_range (by omega), List.getElem?_range (by omega)]
    simp only [Option.map_some, Option.some.injEq]
    apply ba_ext
    rw [extract_list, extract_list, extract_list, List.drop_zero, List.take_take, Nat.min_eq_left (by omega)]
  · rw [if_neg hj, List.getElem?_eq_none (by rw [blocksOf_length]; omega)]
theorem cat_take (l : List ByteArray) (h : ∀ b ∈ l, b.size = 16) (n : Nat) (hn : n ≤ l.length) : cat (l.take n) = (cat l).take (16 * n) := by
  have e : cat l = cat (l.take n) ++ cat (l.drop n) := by rw [← cat_append, List.take_append_drop]
  have h1 : (cat (l.take n)).length = 16 * n := by rw [cat_length _ (fun b hb => h b (List.mem_of_mem_take hb)), List.length_take, Nat.min_eq_left hn]
  rw [e, ← h1, List.take_left]
theorem open_short (key first data : ByteArray) (hk : key.size = 32) (hf : first.size = 16) (hd : data.size ≤ 1048576) (n : Nat) (h16 : 16 < (frameW data).size) (hn : 16 * n + 16 = (frameW data).size) :
    openR key first ((sealW key first data).extract 0 (16 * n)) = (⟨#[]⟩, 4) := by
  have hsz := sealW_size key first data
  have e : (openB key first (blocksOf ((sealW key first data).extract 0 (16 * n)))).1 = (frameW data).data.toList.take (16 * n) := by
    rw [openB_plain, blocksOf_take _ _ (by omega), blocks_sealW, plainC_take, plain_chain key hk _ (fun b hb => blocksOf_size _ b hb) first hf,
      cat_take _ (fun b hb => blocksOf_size _ b hb) _ (by rw [blocksOf_length]; omega), cat_blocksOf _ (frameW_mod data)]
  have hu : unframeR (bs ((frameW data).data.toList.take (16 * n))) = (⟨#[]⟩, false) := by
    have h8 : (bs ((frameW data).data.toList.take (16 * n))).data.toList.take 8 = be8 data.size := by
      rw [bs_toList, List.take_take, Nat.min_eq_left (by omega), frame_take8]
    have hs2 : (bs ((frameW data).data.toList.take (16 * n))).size = 16 * n := by rw [bs_size, List.length_take, toList_length, Nat.min_eq_left (by omega)]
    unfold unframeR
    rw [h8, be8_num _ (by omega), hs2, if_pos]
    left
    have hfz := frameW_size data
    unfold pad at hfz
    omega
  unfold openR
  rw [e, hu]
  rfl
end Go.Proofs.Ytfbcgpgpfpnpnaa.Given
