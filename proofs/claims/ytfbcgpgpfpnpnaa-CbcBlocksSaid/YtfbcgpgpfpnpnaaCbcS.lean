/- Frames and chains of blocks, as plain functions. Conditions: none. -/
import Derived.Test.YtfbcgpgpfpnpnaaAesW
namespace Go.Proofs.Ytfbcgpgpfpnpnaa.Cbc
open Go.Proofs.Ytfbcgpgpfpnpnaa.Row Go.Proofs.Ytfbcgpgpfpnpnaa.Given
set_option linter.unusedVariables false
set_option linter.unusedSimpArgs false
/-- a number's eight bytes -/
def be8 (n : Nat) : List UInt8 := (List.range 8).map fun k => UInt8.ofNat (n / 2 ^ (8 * (7 - k)))
theorem be8_length (n : Nat) : (be8 n).length = 8 := by simp [be8]
def pad (n : Nat) : Nat := (16 - (8 + n) % 16) % 16
def frameL (d : List UInt8) : List UInt8 := be8 d.length ++ d ++ List.replicate (pad d.length) 0
theorem frameL_length (d : List UInt8) : (frameL d).length = 8 + d.length + pad d.length := by simp [frameL, be8_length]; omega
theorem frameL_mod (d : List UInt8) : (frameL d).length % 16 = 0 := by rw [frameL_length]; unfold pad; omega
def bs (l : List UInt8) : ByteArray := ⟨l.toArray⟩
theorem bs_size (l : List UInt8) : (bs l).size = l.length := by simp [bs, ByteArray.size]
theorem bs_toList (l : List UInt8) : (bs l).data.toList = l := by simp [bs]
theorem bs_data (s : ByteArray) : bs s.data.toList = s := by cases s; simp [bs]
def frameW (d : ByteArray) : ByteArray := bs (frameL d.data.toList)
/-- two blocks, put together -/
def xorL : List UInt8 → List UInt8 → List UInt8 := List.zipWith (· ^^^ ·)
def xorW (a b : ByteArray) : ByteArray := bs (xorL a.data.toList b.data.toList)
theorem xorW_size (a b : ByteArray) (ha : a.size = 16) (hb : b.size = 16) : (xorW a b).size = 16 := by
  rw [xorW, bs_size, xorL, List.length_zipWith, toList_length, toList_length, ha, hb]; rfl
/-- a text's blocks -/
def blocksOf (s : ByteArray) : List ByteArray := (List.range (s.size / 16)).map fun k => s.extract (16 * k) (16 * k + 16)
theorem blocksOf_length (s : ByteArray) : (blocksOf s).length = s.size / 16 := by simp [blocksOf]
theorem blocksOf_size (s b : ByteArray) (h : b ∈ blocksOf s) : b.size = 16 := by
  simp only [blocksOf, List.mem_map, List.mem_range] at h
  obtain ⟨k, hk, rfl⟩ := h
  rw [ByteArray.size_extract]
  omega
/-- a block sealed onto a chain; a block opened -/
def sealGo (key : ByteArray) (st : List UInt8 × ByteArray) (b : ByteArray) : List UInt8 × ByteArray :=
  (st.1 ++ (encW key (xorW b st.2)).data.toList, encW key (xorW b st.2))
def openGo (key : ByteArray) (st : List UInt8 × ByteArray) (b : ByteArray) : List UInt8 × ByteArray :=
  (st.1 ++ (xorW (decW key b) st.2).data.toList, b)
def sealB (key first : ByteArray) (l : List ByteArray) : List UInt8 × ByteArray := l.foldl (sealGo key) ([], first)
def openB (key first : ByteArray) (l : List ByteArray) : List UInt8 × ByteArray := l.foldl (openGo key) ([], first)
theorem sealF_length (key : ByteArray) (l : List ByteArray) : ∀ st, (l.foldl (sealGo key) st).1.length = st.1.length + 16 * l.length := by
  induction l with
  | nil => intro st; simp
  | cons b l ih =>
    intro st
    rw [List.foldl_cons, ih]
    simp only [sealGo, List.length_append, List.length_cons, toList_length, encW_size]
    omega
theorem sealB_length (key first : ByteArray) (l : List ByteArray) : (sealB key first l).1.length = 16 * l.length := by rw [sealB, sealF_length]; simp
theorem sealB_last (key first : ByteArray) (hf : first.size = 16) (l : List ByteArray) : (sealB key first l).2.size = 16 := by
  rcases List.eq_nil_or_concat l with rfl | ⟨m, b, rfl⟩
  · exact hf
  · simp [sealB, sealGo, encW_size]
theorem openF_length (key : ByteArray) (l : List ByteArray) (hl : ∀ b ∈ l, b.size = 16) : ∀ st, st.2.size = 16 → (l.foldl (openGo key) st).1.length = st.1.length + 16 * l.length := by
  induction l with
  | nil => intro st _; simp
  | cons b l ih =>
    intro st hs
    rw [List.foldl_cons, ih (fun c hc => hl c (List.mem_cons_of_mem _ hc)) _ (hl b (List.mem_cons_self ..))]
    simp only [openGo, List.length_append, List.length_cons, toList_length, xorW_size _ _ (decW_size _ _) hs]
    omega
theorem openB_length (key first : ByteArray) (hf : first.size = 16) (l : List ByteArray) (hl : ∀ b ∈ l, b.size = 16) : (openB key first l).1.length = 16 * l.length := by rw [openB, openF_length key l hl _ hf]; simp
theorem openB_last (key first : ByteArray) (hf : first.size = 16) (l : List ByteArray) (hl : ∀ b ∈ l, b.size = 16) : (openB key first l).2.size = 16 := by
  rcases List.eq_nil_or_concat l with rfl | ⟨m, b, rfl⟩
  · exact hf
  · simp only [openB, List.concat_eq_append, List.foldl_append, List.foldl_cons, List.foldl_nil, openGo]
    exact hl b (by simp)
theorem sealB_snoc (key first : ByteArray) (l : List ByteArray) (b : ByteArray) : sealB key first (l ++ [b]) = sealGo key (sealB key first l) b := by simp [sealB]
theorem openB_snoc (key first : ByteArray) (l : List ByteArray) (b : ByteArray) : openB key first (l ++ [b]) = openGo key (openB key first l) b := by simp [openB]
end Go.Proofs.Ytfbcgpgpfpnpnaa.Cbc
