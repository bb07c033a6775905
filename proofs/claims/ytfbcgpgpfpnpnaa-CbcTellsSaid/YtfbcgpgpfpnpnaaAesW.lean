/- Blocks enciphered and deciphered, as strings; a cipher that lies in memory. Conditions: as each theorem names them. -/
import Derived.Test.YtfbcgpgpfpnpnaaAesF
import Derived.Test.YtfbcgpgpfpnpnaaAesQ
import Derived.Lib.Strings
namespace Go.Proofs.Ytfbcgpgpfpnpnaa.Given
open Go.RowKit Go.Proofs.YtfbcgpgpfpnpnaaW.PrintWords Go.Proofs.YtfbcgpgpfpnpnaaW.PrintLast Go.Proofs.YtfbcgpgpfpnpnaaW.PrintMore
open Go.Proofs.Ytfbcgpgpfpnpnaa.Row Go.Proofs.Ytfbcgpgpfpnpnaa.Aes Go.Proofs.Ytfbcgpgpfpnpnaa.Row.At
set_option maxRecDepth 100000
set_option linter.unusedVariables false
set_option linter.unusedSimpArgs false
/-- A cipher lies in memory, beside what was there before the call. -/
structure Has (w wx : World) (g : Nat) (kb : List UInt8) : Prop where
  cip : At wx g 49 (b8s (cipher kb))
  bel : Below w.heap.size w wx
theorem Has.go {w wx w2 : World} {g : Nat} {kb : List UInt8} (h : Has w wx g kb) (hb : Below wx.heap.size wx w2) : Has w w2 g kb :=
  ⟨h.cip.below hb h.cip.lt, h.bel.trans (hb.mono h.bel.size)⟩
theorem below_go {w wx w2 : World} (h : Below w.heap.size w wx) (hb : Below wx.heap.size wx w2) : Below w.heap.size w w2 := h.trans (hb.mono h.size)
/-- A block enciphered, deciphered: strings. -/
def encW (key s : ByteArray) : ByteArray := ⟨(encS key.data.toList s.data.toList).toArray⟩
def decW (key s : ByteArray) : ByteArray := ⟨(decS key.data.toList s.data.toList).toArray⟩
theorem encW_size (key s : ByteArray) : (encW key s).size = 16 := by
  show (encS key.data.toList s.data.toList).toArray.size = 16
  rw [List.size_toArray, encS_length]
theorem decW_size (key s : ByteArray) : (decW key s).size = 16 := by
  show (decS key.data.toList s.data.toList).toArray.size = 16
  rw [List.size_toArray, decS_length]
theorem decW_encW (key s : ByteArray) (hk : key.size = 32) (hs : s.size = 16) : decW key (encW key s) = s := by
  have : decS key.data.toList (encS key.data.toList s.data.toList) = s.data.toList := dec_enc _ _ (by rw [toList_length, hk]) (by rw [toList_length, hs])
  show (⟨(decS key.data.toList (encS key.data.toList s.data.toList).toArray.toList).toArray⟩ : ByteArray) = s
  rw [List.toList_toArray, this]
theorem encW_decW (key s : ByteArray) (hk : key.size = 32) (hs : s.size = 16) : encW key (decW key s) = s := by
  have : encS key.data.toList (decS key.data.toList s.data.toList) = s.data.toList := enc_dec _ _ (by rw [toList_length, hk]) (by rw [toList_length, hs])
  show (⟨(encS key.data.toList (decS key.data.toList s.data.toList).toArray.toList).toArray⟩ : ByteArray) = s
  rw [List.toList_toArray, this]
theorem Encrypt_w (key s : ByteArray) (hk : key.size = 32) (hs : s.size = 16) (g : Nat) (w : World) (h2 : At w g 49 (b8s (cipher key.data.toList))) :
    Calls Try.prog 14 #[.pointer (some ⟨g, 0, none⟩), .string s] w fun e w' => e = .returned (.tuple #[.string (encW key s), .int .i64 0]) ∧ Below w.heap.size w w' :=
  Encrypt_ok key.data.toList s (by rw [toList_length, hk]) hs g w h2
theorem Decrypt_w (key s : ByteArray) (hk : key.size = 32) (hs : s.size = 16) (g : Nat) (w : World) (h2 : At w g 49 (b8s (cipher key.data.toList))) :
    Calls Try.prog 15 #[.pointer (some ⟨g, 0, none⟩), .string s] w fun e w' => e = .returned (.tuple #[.string (decW key s), .int .i64 0]) ∧ Below w.heap.size w w' :=
  Decrypt_ok key.data.toList s (by rw [toList_length, hk]) hs g w h2
theorem toList_inj {a b : ByteArray} (h : a.toList = b.toList) : a = b := by
  rw [Go.Lib.toList_data, Go.Lib.toList_data] at h
  cases a; cases b
  congr 1
  exact Array.toList_inj.1 h
theorem beq_both (f u : ByteArray → ByteArray) (a b : ByteArray) (ha : u (f a) = a) (hb : u (f b) = b) : ((f a).toList == (f b).toList) = (a.toList == b.toList) := by
  rw [Bool.eq_iff_iff, beq_iff_eq, beq_iff_eq]
  constructor
  · intro h
    have := toList_inj h
    rw [← ha, ← hb, this]
  · intro h
    rw [toList_inj h]
attribute [irreducible] encW decW
end Go.Proofs.Ytfbcgpgpfpnpnaa.Given
