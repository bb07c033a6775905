/- Any stream, sealed by any lock, or how it is refused, is the document's. Conditions: none but the statement's own. -/
import Derived.Test.YtdegeodegjmddaaZPSealLocksx1
namespace Go.Proofs.Ytdegeodegjmddaa.Pure
open Go.RowKit Go.Proofs.Ytdegeodegjmddaa.PSealLocks Go.Proofs.YtdegeodegjmddaaW.PrintWords Go.Proofs.YtdegeodegjmddaaW.PrintLast Go.Proofs.YtdegeodegjmddaaW.PrintMore

set_option linter.unusedVariables false
set_option linter.unusedSimpArgs false

/-! bytes, frames and blocks of the document (hamperref10) -/
section ref10B
open Given Cbc
def nb (l : List UInt8) : List Int := l.map fun b => (b.toNat : Int)
theorem nb_length (l : List UInt8) : (nb l).length = l.length := by simp [nb]
theorem nb_bytes (s : ByteArray) : bytesOf s = nb s.data.toList := rfl
theorem nb_app (a b : List UInt8) : nb a ++ nb b = nb (a ++ b) := by simp [nb]
theorem str_nb (l : List UInt8) : strOfNums (nb l) = bs l := by
  unfold strOfNums nb bs
  rw [List.map_map]
  congr 1
  have e : ((fun x : Int => UInt8.ofNat x.toNat) ∘ fun b : UInt8 => (b.toNat : Int)) = id := by
    funext b
    simp
  first
    | rw [e, List.map_id]
    | simp
theorem frame_f (a : ByteArray) (ha : a.size ≤ 140737488351232) : ref10_Frame.f a = some (frameW a) := by
  unfold ref10_Frame.f
  rw [if_pos ha]
theorem xor_f (a b : ByteArray) (ha : a.size = 16) (hb : b.size = 16) : ref10_xor.f a b = some (xorW a b) := by
  unfold ref10_xor.f
  rw [if_pos ⟨ha, hb⟩]
theorem blocks_drop (s : ByteArray) (j : Nat) (hj : j < s.size / 16) : (blocksOf s).drop j = s.extract (16 * j) (16 * j + 16) :: (blocksOf s).drop (j + 1) := by
  have hl : j < (blocksOf s).length := by rw [blocksOf_length]; exact hj
  rw [List.drop_eq_getElem_cons hl]
  congr 1
  simp [blocksOf]
end ref10B

/-! the document's sealed chain (hamperref10.Seal) -/
section ref10S
open Given Cbc
theorem enc_f (k b : ByteArray) (hk : k.size = 32) (hb : b.size = 16) : ref09_Encrypt.f k b = some (encW k b) := by
  unfold ref09_Encrypt.f
  rw [if_pos ⟨hk, hb⟩]
theorem seal_loop (key x : ByteArray) (hk : key.size = 32) (hm : x.size % 16 = 0) (hx : x.size ≤ 1099511627776) : ∀ d j, j + d = x.size / 16 → ∀ (st : List UInt8 × ByteArray) (k : Nat), st.2.size = 16 → st.1.length = 16 * j → d < k →
    hamperref10_Seal.l0 k key x (nb st.1) st.2 ((16 * j : Nat) : Int) = some (bs (((blocksOf x).drop j).foldl (sealGo key) st).1, 0) := by
  intro d
  induction d with
  | zero =>
    intro j hj st k h2 h1 hk0
    obtain ⟨k, rfl⟩ : ∃ m, k = m + 1 := ⟨k - 1, by omega⟩
    rw [hamperref10_Seal.l0, if_neg (by omega), str_nb, List.drop_of_length_le (by rw [blocksOf_length]; omega)]
    rfl
  | succ d ih =>
    intro j hj st k h2 h1 hk0
    obtain ⟨k, rfl⟩ : ∃ m, k = m + 1 := ⟨k - 1, by omega⟩
    have hw : wrap64 (((16 * j : Nat) : Int) + 16) = ((16 * j + 16 : Nat) : Int) := by unfold wrap64; omega
    have hb : (x.extract (16 * j) (16 * j + 16)).size = 16 := by rw [ByteArray.size_extract]; omega
    rw [hamperref10_Seal.l0, if_pos (by omega), if_pos (by omega), hw, if_pos (by omega), if_pos (by omega), Int.toNat_natCast, Int.toNat_natCast, xor_f _ _ hb h2]
    simp only [Option.bind_some]
    rw [enc_f _ _ hk (xorW_size _ _ hb h2)]
    simp only [Option.bind_some]
    rw [if_pos (by rw [nb_length, encW_size, h1]; omega), nb_bytes, nb_app]
    have := ih (j + 1) (by omega) (sealGo key st (x.extract (16 * j) (16 * j + 16))) k (encW_size _ _) (by simp only [sealGo, List.length_append, toList_length, encW_size, h1]; omega) (by omega)
    rw [show 16 * (j + 1) = 16 * j + 16 by omega] at this
    rw [blocks_drop x j (by omega), List.foldl_cons]
    exact this
theorem refSeal_f (k : Nat) (key first data : ByteArray) (hd : data.size ≤ 140737488351232) (hk : 70000 ≤ k) : hamperref10_Seal.f k key first data = cbc_Seal.f key first data := by
  obtain ⟨k, rfl⟩ : ∃ m, k = m + 10 := ⟨k - 10, by omega⟩
  unfold hamperref10_Seal.f cbc_Seal.f
  by_cases hkk : key.size = 32
  · rw [if_pos (by omega)]
    by_cases hf : first.size = 16
    · have e : ((first.size : Int) != 16) = false := by rw [hf]; rfl
      rw [e, if_pos ⟨hkk, hf⟩]
      show hamperref10_Seal.j0 (k + 9 + 1) _ _ _ _ = _
      rw [hamperref10_Seal.j0, if_neg Bool.false_ne_true]
      by_cases hl : data.size ≤ 1048576
      · rw [if_neg (by omega), if_pos hl, frame_f data (by omega)]
        simp only [Option.bind_some]
        have h1 := frameW_size data
        have h2 := frameW_mod data
        have h3 : pad data.size < 16 := by unfold pad; omega
        have := seal_loop key (frameW data) hkk h2 (by omega) ((frameW data).size / 16) 0 (by omega) ([], first) (k + 9) hf rfl (by omega)
        rw [List.drop_zero] at this
        exact this
      · rw [if_pos (by omega), if_neg hl]
    · have e : ((first.size : Int) != 16) = true := by rw [bne_iff_ne]; omega
      rw [e, if_neg (fun h => hf h.2)]
      show hamperref10_Seal.j0 (k + 9 + 1) _ _ _ _ = _
      rw [hamperref10_Seal.j0, if_pos rfl]
  · rw [if_neg (by omega), if_neg (fun h => hkk h.1)]
    show hamperref10_Seal.j0 (k + 9 + 1) _ _ _ _ = _
    rw [hamperref10_Seal.j0, if_pos rfl]
end ref10S

open Given in
theorem refKey_ok (pw salt : ByteArray) (r : Int) (h1 : pw.size ≤ 64) (h2 : salt.size = 16) (h3 : 1 ≤ r) (h4 : r ≤ 64) : hamperref08_Key.f pw salt r = some (stretchW pw salt r.toNat 1, (stretchW pw salt r.toNat 2).extract 0 8, 0) := by
  have e1 : ref08_Stretch.f pw salt r 1 = some (stretchW pw salt r.toNat (1 : Int).toNat, 0) := by unfold ref08_Stretch.f; rw [if_pos ⟨h1, h2, h3, h4, by omega, by omega⟩]
  have e2 : ref08_Stretch.f pw salt r 2 = some (stretchW pw salt r.toNat (2 : Int).toNat, 0) := by unfold ref08_Stretch.f; rw [if_pos ⟨h1, h2, h3, h4, by omega, by omega⟩]
  unfold hamperref08_Key.f
  rw [e1, e2]
  have hs : ((stretchW pw salt r.toNat (2 : Int).toNat).size : Int) = 32 := by rw [stretchW_size]; rfl
  simp only [Option.bind_some, if_true]
  rw [if_pos (by omega), if_pos (by omega)]
  rfl
open Given in
theorem refKey_no (pw salt : ByteArray) (r : Int) (h : ¬ (pw.size ≤ 64 ∧ salt.size = 16 ∧ 1 ≤ r ∧ r ≤ 64)) : hamperref08_Key.f pw salt r = some (⟨#[]⟩, ⟨#[]⟩, 1) := by
  have e1 : ref08_Stretch.f pw salt r 1 = some (⟨#[]⟩, 1) := by unfold ref08_Stretch.f; rw [if_neg (fun hh => h ⟨hh.1, hh.2.1, hh.2.2.1, hh.2.2.2.1⟩)]
  unfold hamperref08_Key.f
  rw [e1]
  rfl

open Given Cbc in
theorem lock_no (a0 p salt iv : ByteArray) (r : Int) (ha : a0.size ≤ 1048576) (hp : p.size ≠ 0) (h : ¬ (p.size ≤ 64 ∧ salt.size = 16 ∧ iv.size = 16 ∧ 1 ≤ r ∧ r ≤ 64)) : seal_Lock.f a0 p salt iv r = some (⟨#[]⟩, 1) := by
  unfold seal_Lock.f
  rw [if_neg (by omega), if_neg hp]
  split
  · rename_i h3
    rw [if_neg (fun hh => h ⟨hh.1, hh.2.1, h3, hh.2.2.1, hh.2.2.2⟩)]
  · rfl
open Given Cbc in
theorem one_byte (r : Int) (h1 : 1 ≤ r) (h2 : r ≤ 64) : strOfNums [r % 256] = ⟨#[UInt8.ofNat r.toNat]⟩ := by
  rw [show r % 256 = r from by omega]
  rfl
open Given Cbc in
theorem lock_bytes (a0 p salt iv : ByteArray) (r : Int) : ((((⟨#[1]⟩ : ByteArray) ++ ⟨#[UInt8.ofNat r.toNat]⟩) ++ salt) ++ iv) ++ signOf p salt r ++ sealW (Given.keyOf p salt r) iv a0 = lockW a0 p salt iv r := by
  apply ba_ext
  rw [lockW_list, lockH]
  simp only [ByteArray.data_append, Array.toList_append, List.append_assoc]

open Given Cbc in
theorem refLock_f (k : Nat) (a0 p salt iv : ByteArray) (r : Int) (ha : a0.size ≤ 1048576) (hk : 70000 ≤ k) : hamperref23_Lock.f (k + 1) a0 p salt iv r = seal_Lock.f a0 p salt iv r := by
  have hno : ∀ x, hamperref23_Lock.j0 (k + 1) x true p salt iv r = some (⟨#[]⟩, 1) := fun x => by rw [hamperref23_Lock.j0, if_pos rfl]
  by_cases hp : p.size = 0
  · unfold hamperref23_Lock.f seal_Lock.f
    rw [if_neg (show ¬ (a0.size : Int) > 1048576 by omega), if_pos (show (p.size : Int) = 0 by omega), if_pos (show 1 + a0.size ≤ 9223372036854775807 by omega), if_neg (show ¬ 1048576 < a0.size by omega), if_pos hp]
  by_cases hh : p.size ≤ 64 ∧ salt.size = 16 ∧ iv.size = 16 ∧ 1 ≤ r ∧ r ≤ 64
  · obtain ⟨h1, h2, h3, h4, h5⟩ := hh
    have z1 : (signOf p salt r).size = 8 := signOf_size p salt r
    have z2 : (sealW (Given.keyOf p salt r) iv a0).size ≤ 1048600 := by
      have e1 := sealW_size (Given.keyOf p salt r) iv a0
      have e2 := frameW_size a0
      have e3 : pad a0.size < 16 := by unfold pad; omega
      omega
    have z3 : (⟨#[UInt8.ofNat r.toNat]⟩ : ByteArray).size = 1 := rfl
    have z4 : (⟨#[1]⟩ : ByteArray).size = 1 := rfl
    have hkey := refKey_ok p salt r h1 h2 h4 h5
    have hkey2 : hamperref08_Key.f p salt r = some (Given.keyOf p salt r, signOf p salt r, 0) := hkey
    have hs := refSeal_f k (Given.keyOf p salt r) iv a0 (by omega) hk
    rw [seal_f _ _ _ (Given.keyOf_size p salt r) h3 ha] at hs
    unfold hamperref23_Lock.f seal_Lock.f
    rw [if_neg (show ¬ (a0.size : Int) > 1048576 by omega), if_neg (show ¬ (p.size : Int) = 0 by omega), if_neg (show ¬ (p.size : Int) > 64 by omega), if_pos (show (salt.size : Int) = 16 by omega), if_pos (show (iv.size : Int) = 16 by omega), if_neg (show ¬ r < 1 by omega),
      decide_eq_false (show ¬ r > 64 by omega), hamperref23_Lock.j0, if_neg Bool.false_ne_true, hkey2,
      if_neg (show ¬ 1048576 < a0.size by omega), if_neg hp, if_pos h3, if_pos ⟨h1, h2, h4, h5⟩]
    simp only [Option.bind_some]
    rw [hs]
    simp only [Option.bind_some, if_true, one_byte r h4 h5]
    rw [if_pos (by rw [z3]; decide), if_pos (by rw [ByteArray.size_append, z3, z4, h2]; decide), if_pos (by rw [ByteArray.size_append, ByteArray.size_append, z3, z4, h2, h3]; decide), if_pos (by rw [ByteArray.size_append, ByteArray.size_append, ByteArray.size_append, z3, z4, h2, h3, z1]; decide),
      if_pos (by rw [ByteArray.size_append, ByteArray.size_append, ByteArray.size_append, ByteArray.size_append, z3, z4, h2, h3, z1]; omega), lock_bytes]
  · rw [lock_no a0 p salt iv r ha hp hh]
    unfold hamperref23_Lock.f
    rw [if_neg (show ¬ (a0.size : Int) > 1048576 by omega), if_neg (show ¬ (p.size : Int) = 0 by omega)]
    by_cases h1 : (p.size : Int) > 64
    · rw [if_pos h1, hno]
    rw [if_neg h1]
    by_cases h2 : (salt.size : Int) = 16
    · rw [if_pos h2]
      by_cases h3 : (iv.size : Int) = 16
      · rw [if_pos h3]
        by_cases h4 : r < 1
        · rw [if_pos h4, hno]
        · have h5 : r > 64 := by
            by_cases h5 : r > 64
            · exact h5
            · exact absurd ⟨by omega, by omega, by omega, by omega, by omega⟩ hh
          rw [if_neg h4, decide_eq_true h5, hno]
      · rw [if_neg h3, hno]
    · rw [if_neg h2, hno]
open Given Cbc in
theorem lock_some (a0 p salt iv : ByteArray) (r : Int) : ∃ x, seal_Lock.f a0 p salt iv r = some x := by
  unfold seal_Lock.f
  split
  · exact ⟨_, rfl⟩
  · split
    · exact ⟨_, rfl⟩
    · split
      · split
        · exact ⟨_, rfl⟩
        · exact ⟨_, rfl⟩
      · exact ⟨_, rfl⟩
open Given Cbc in
theorem sealLocks_pure (a0 p salt iv : ByteArray) (r : Int) : ∃ k, hamperlaw23_SealLocks.f k a0 p salt iv r = some true := by
  refine ⟨80000 + 1 + 1, ?_⟩
  unfold hamperlaw23_SealLocks.f
  by_cases b0 : (a0.size : Int) > 1500
  · rw [if_pos b0, hamperlaw23_SealLocks.j0, if_pos rfl]
  by_cases b1 : (p.size : Int) > 500
  · rw [if_neg b0, decide_eq_true b1, hamperlaw23_SealLocks.j0, if_pos rfl]
  rw [if_neg b0, decide_eq_false b1, hamperlaw23_SealLocks.j0, if_neg Bool.false_ne_true, refLock_f 80000 a0 p salt iv r (by omega) (by decide)]
  obtain ⟨x, hx⟩ := lock_some a0 p salt iv r
  rw [hx]
  simp
theorem SealLocks_walk (a0 p salt iv : ByteArray) (r : Int) (w : World) (w0 : a0.size ≤ 140737488351232) (w1 : (Lit.int .i64 r).wf = true) :
    Calls Try.prog 5 #[.string a0, .agg #[.string p, .string salt, .string iv, .int .i64 r]] w fun e w' => e = .returned (.bool true) ∧ Below w.heap.size w w' := by
  obtain ⟨k, h⟩ := sealLocks_pure a0 p salt iv r
  exact hamperlaw23_SealLocks.calls k a0 p salt iv r true w h ⟨rfl⟩

end Go.Proofs.Ytdegeodegjmddaa.Pure
