/- Facts of the closed statement's sealed texts: cut short, or with another number of rounds. Conditions: as each theorem names them. -/
import Derived.Test.YtdegeodegjmddaaSealQ2
namespace Go.Proofs.Ytdegeodegjmddaa.Given
open Go.RowKit
open Go.Proofs.Ytdegeodegjmddaa.Row Go.Proofs.Ytdegeodegjmddaa.Cbc
set_option linter.unusedVariables false
set_option linter.unusedSimpArgs false
theorem open_short42 (t pw : ByteArray) (h0 : begins t 0 = false) (h : t.size < 42) : seal_Open.f t pw = some (⟨#[]⟩, 4) := by
  unfold seal_Open.f
  rw [if_neg (by rw [h0]; exact Bool.noConfusion), if_pos (.inr h)]
theorem open_other (t pw : ByteArray) (h0 : begins t 0 = false) (h : begins t 1 = false) : seal_Open.f t pw = some (⟨#[]⟩, 4) := by
  unfold seal_Open.f
  rw [if_neg (by rw [h0]; exact Bool.noConfusion), if_pos (.inl h)]
theorem open_trim (a p salt iv : ByteArray) (r : Int) (m : Nat) (hp : p.size ≤ 64) (hp0 : p.size ≠ 0) (hs : salt.size = 16) (hi : iv.size = 16) (hr1 : 1 ≤ r) (hr2 : r ≤ 64) (hm : m ≤ (frameW a).size) (hf : m = 0 ∨ m % 16 ≠ 0) :
    seal_Open.f ((lockW a p salt iv r).extract 0 (42 + m)) p = some (⟨#[]⟩, 4) := by
  obtain ⟨body, hbody⟩ : ∃ b, b = sealW (keyOf p salt r) iv a := ⟨_, rfl⟩
  have hlist := lockW_list a p salt iv r
  rw [← hbody] at hlist
  have hbz : body.size = (frameW a).size := by rw [hbody, sealW_size]
  have hH := lockH_length p salt iv r hs hi
  have hl : ((lockW a p salt iv r).extract 0 (42 + m)).data.toList = lockH p salt iv r ++ (body.extract 0 m).data.toList := by
    rw [extract_list, extract_list, hlist, List.take_append, hH, List.take_of_length_le (by omega), show 42 + m - 42 = m from by omega]
    simp
  have hes : (body.extract 0 m).size = m := by rw [ByteArray.size_extract]; omega
  rw [open_head _ p salt iv p _ r hl hs hi hr1 hr2, if_neg (by omega), if_pos rfl, open_f_form _ _ _ (keyOf_size _ _ _) hi (by rw [hes]; exact hf)]
  rfl
theorem open_cut (a p salt iv : ByteArray) (r : Int) (n : Nat) (hn : 1 ≤ n) (h42 : n < 42) : seal_Open.f ((lockW a p salt iv r).extract 0 n) p = some (⟨#[]⟩, 4) := by
  obtain ⟨k, rfl⟩ : ∃ k, n = k + 1 := ⟨n - 1, by omega⟩
  apply open_short42
  · unfold begins Lib.hasPrefix
    rw [extract_list, lockW_list, lockH]
    rfl
  · rw [ByteArray.size_extract]; omega
theorem open_count (t pw : ByteArray) (c : UInt8) (l : List UInt8) (h : t.data.toList = 1 :: c :: l) (hl : 40 ≤ l.length) (hc : c.toNat < 1 ∨ 64 < c.toNat) : seal_Open.f t pw = some (⟨#[]⟩, 4) := by
  have hz : t.size = l.length + 2 := by rw [← toList_length, h]; rfl
  have b1 : begins t 1 = true := by unfold begins Lib.hasPrefix; rw [h]; rfl
  have b0 : begins t 0 = false := begins_one b1 (by decide)
  have hro : roundsOf t = (c.toNat : Int) := by unfold roundsOf; rw [h]; rfl
  unfold seal_Open.f
  rw [if_neg (by rw [b0]; exact Bool.noConfusion), if_neg (by rw [b1]; intro hh; rcases hh with hh | hh <;> first | exact Bool.noConfusion hh | omega), hro, if_pos (by omega)]
theorem lock_turned (a p salt iv : ByteArray) (r : Int) (c : UInt8) (pw : ByteArray) (n : Nat) (hn : (lockW a p salt iv r).size = n) (h42 : 42 ≤ n) (hc : c.toNat < 1 ∨ 64 < c.toNat) :
    seal_Open.f ((lockW a p salt iv r).extract 0 1 ++ ⟨#[c]⟩ ++ (lockW a p salt iv r).extract 2 n) pw = some (⟨#[]⟩, 4) := by
  obtain ⟨y, hy⟩ : ∃ y, y = (lockW a p salt iv r).extract 2 n := ⟨_, rfl⟩
  have hyz : y.data.toList.length = n - 2 := by rw [toList_length, hy, ByteArray.size_extract]; omega
  have h1 : ((lockW a p salt iv r).extract 0 1).data.toList = [1] := by
    rw [extract_list, lockW_list, lockH]
    simp
  rw [← hy]
  refine open_count _ pw c y.data.toList ?_ (by omega) hc
  rw [ByteArray.data_append, Array.toList_append, ByteArray.data_append, Array.toList_append, h1]
  rfl
end Go.Proofs.Ytdegeodegjmddaa.Given
