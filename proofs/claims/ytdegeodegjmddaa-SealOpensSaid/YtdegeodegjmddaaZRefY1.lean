/- The contract of hamperref07.Hmac. Conditions: fewer than 2^47 bytes. The contract of hamperref08.Stretch. Conditions: as it is called. -/
import Derived.Test.YtdegeodegjmddaaZPHmaQ
import Derived.Test.YtdegeodegjmddaaZShaQ2
import Derived.Test.YtdegeodegjmddaaZDerQ
import Derived.Test.YtdegeodegjmddaaZRowQ
set_option linter.unusedVariables false
set_option linter.unusedSimpArgs false
namespace Go.Proofs.Ytdegeodegjmddaa.Given
open Go.RowKit Go.Proofs.YtdegeodegjmddaaW.PrintWords Go.Proofs.YtdegeodegjmddaaW.PrintLast Go.Proofs.YtdegeodegjmddaaW.PrintMore
open Go.Proofs.Ytdegeodegjmddaa.Row Go.Proofs.Ytdegeodegjmddaa.Row.At Go.Proofs.Ytdegeodegjmddaa.PHma
set_option maxRecDepth 100000
set_option linter.unusedVariables false
set_option linter.unusedSimpArgs false
/-- bytes as numbers -/
def nbH (l : List UInt8) : List Int := l.map fun b => (b.toNat : Int)
theorem nbH_length (l : List UInt8) : (nbH l).length = l.length := by simp [nbH]
theorem str_nbH (l : List UInt8) : strOfNums (nbH l) = ⟨l.toArray⟩ := by
  unfold strOfNums nbH
  rw [List.map_map]
  congr 1
  have e : ((fun x : Int => UInt8.ofNat x.toNat) ∘ fun b : UInt8 => (b.toNat : Int)) = id := by
    funext b
    simp
  first
    | rw [e, List.map_id]
    | simp
/-- a key with noughts behind it -/
def kpad (k : ByteArray) : List UInt8 := k.data.toList ++ List.replicate (64 - k.size) 0
theorem kpad_length (k : ByteArray) (h : k.size ≤ 64) : (kpad k).length = 64 := by
  rw [kpad, List.length_append, List.length_replicate, Array.length_toList]
  show k.size + (64 - k.size) = 64
  omega
theorem kpad_lt (k : ByteArray) (i : Nat) (hi : i < k.size) : (kpad k)[i]? = some (k.data.toList[i]'(by rw [Array.length_toList]; exact hi)) := by
  have hl : i < k.data.toList.length := by rw [Array.length_toList]; exact hi
  rw [kpad, List.getElem?_append_left hl, List.getElem?_eq_getElem hl]
theorem kpad_ge (k : ByteArray) (i : Nat) (hi : k.size ≤ i) (h64 : i < 64) : (kpad k)[i]? = some 0 := by
  have hl : k.data.toList.length = k.size := Array.length_toList
  rw [kpad, List.getElem?_append_right (by omega), hl, List.getElem?_replicate, if_pos (by omega)]
theorem xor54 (b : UInt8) : bits .xor .u8 (b.toNat : Int) 54 = ((b ^^^ 54).toNat : Int) := u8x b 54
theorem xor92 (b : UInt8) : bits .xor .u8 (b.toNat : Int) 92 = ((b ^^^ 92).toNat : Int) := u8x b 92
def kx (k : ByteArray) (c : UInt8) (i : Nat) : List UInt8 := ((kpad k).take i).map (· ^^^ c)
theorem kx_length (k : ByteArray) (c : UInt8) (i : Nat) : (kx k c i).length ≤ i := by rw [kx, List.length_map, List.length_take]; omega
theorem kx_succ (k : ByteArray) (c b : UInt8) (i : Nat) (h : (kpad k)[i]? = some b) : nbH (kx k c (i + 1)) = nbH (kx k c i) ++ [((b ^^^ c).toNat : Int)] := by
  obtain ⟨hl, hb⟩ := List.getElem?_eq_some_iff.1 h
  rw [kx, kx, ← List.take_append_getElem hl, List.map_append, nbH, nbH, List.map_append, hb]
  rfl
theorem kx_all (k : ByteArray) (c : UInt8) (h : k.size ≤ 64) : (⟨(kx k c 64).toArray⟩ : ByteArray) = padK k c := by
  rw [kx, List.take_of_length_le (by rw [kpad_length k h]; exact Nat.le_refl _)]
  rfl
theorem padK_size64 (k : ByteArray) (c : UInt8) (h : k.size ≤ 64) : (padK k c).size = 64 := by
  show ((kpad k).map (· ^^^ c)).toArray.size = 64
  rw [List.size_toArray, List.length_map, kpad_length k h]
theorem bt_get (k : ByteArray) (i : Nat) (hi : i < k.size) : bt k (i : Int) = ((k.data.toList[i]'(by rw [Array.length_toList]; exact hi)).toNat : Int) := by
  have h : (i : Int).toNat < k.size := by rw [Int.toNat_natCast]; exact hi
  rw [bt, dif_pos h]
  simp only [Int.toNat_natCast]
  rfl
theorem hmac_loop (k x : ByteArray) (hk : k.size ≤ 64) (hx : x.size ≤ 140737488351100) : ∀ d i, i + d = 64 → ∀ q, d < q →
    hamperref07_Hmac.l0 q k x (nbH (kx k 54 i)) (nbH (kx k 92 i)) (i : Int) = some (shaW (padK k 92 ++ shaW (padK k 54 ++ x))) := by
  intro d
  induction d with
  | zero =>
    intro i hi q hq
    obtain ⟨q, rfl⟩ : ∃ m, q = m + 1 := ⟨q - 1, by omega⟩
    have hi64 : i = 64 := by omega
    subst hi64
    have z1 := padK_size64 k 54 hk
    have z2 := padK_size64 k 92 hk
    rw [hamperref07_Hmac.l0, if_neg (by omega), str_nbH, str_nbH, kx_all k 54 hk, kx_all k 92 hk, if_pos (by rw [z1]; omega)]
    have e1 : ref07_Sum.f (padK k 54 ++ x) = some (shaW (padK k 54 ++ x)) := by
      unfold ref07_Sum.f
      rw [if_pos (by rw [ByteArray.size_append, z1]; omega)]
    rw [e1]
    simp only [Option.bind_some]
    rw [if_pos (by rw [z2, shaW_size]; omega)]
    have e2 : ref07_Sum.f (padK k 92 ++ shaW (padK k 54 ++ x)) = some (shaW (padK k 92 ++ shaW (padK k 54 ++ x))) := by
      unfold ref07_Sum.f
      rw [if_pos (by rw [ByteArray.size_append, z2, shaW_size]; omega)]
    rw [e2]
    rfl
  | succ d ih =>
    intro i hi q hq
    obtain ⟨q, rfl⟩ : ∃ m, q = m + 1 := ⟨q - 1, by omega⟩
    have h1 := kx_length k 54 i
    have h2 := kx_length k 92 i
    have hw : wrap64 ((i : Int) + 1) = ((i + 1 : Nat) : Int) := by unfold wrap64; omega
    by_cases hik : i < k.size
    · rw [hamperref07_Hmac.l0, if_pos (by omega), if_pos (by omega), if_pos (by omega), if_pos (by rw [nbH_length]; omega), if_pos (by rw [nbH_length]; omega), bt_get k i hik, xor54, xor92, hw]
      have hg := kpad_lt k i hik
      rw [← kx_succ k 54 _ i hg, ← kx_succ k 92 _ i hg]
      exact ih (i + 1) (by omega) q (by omega)
    · have e54 : bits .xor .u8 0 54 = (((0 : UInt8) ^^^ 54).toNat : Int) := xor54 0
      have e92 : bits .xor .u8 0 92 = (((0 : UInt8) ^^^ 92).toNat : Int) := xor92 0
      rw [hamperref07_Hmac.l0, if_pos (by omega), if_neg (by omega), if_pos (by rw [nbH_length]; omega), if_pos (by rw [nbH_length]; omega), e54, e92, hw]
      have hg := kpad_ge k i (by omega) (by omega)
      rw [← kx_succ k 54 _ i hg, ← kx_succ k 92 _ i hg]
      exact ih (i + 1) (by omega) q (by omega)
theorem hmac_fR (k x : ByteArray) (hk : k.size ≤ 140737488351232) (hx : x.size ≤ 140737488351100) : hamperref07_Hmac.f 70 k x = some (hmacW k x) := by
  unfold hamperref07_Hmac.f
  by_cases h : 64 < k.size
  · have e1 : ref07_Sum.f k = some (shaW k) := by unfold ref07_Sum.f; rw [if_pos hk]
    rw [if_pos (by omega), e1]
    have hz : (shaW k).size ≤ 64 := by rw [shaW_size]; decide
    have hl := hmac_loop (shaW k) x hz hx 64 0 rfl 69 (by decide)
    have hkw : keyW k = shaW k := by rw [keyW, if_pos h]
    show hamperref07_Hmac.j0 (69 + 1) (shaW k) x = _
    rw [hamperref07_Hmac.j0, hmacW, hkw]
    exact hl
  · have hl := hmac_loop k x (by omega) hx 64 0 rfl 69 (by decide)
    have hkw : keyW k = k := by rw [keyW, if_neg h]
    rw [if_neg (by omega)]
    show hamperref07_Hmac.j0 (69 + 1) k x = _
    rw [hamperref07_Hmac.j0, hmacW, hkw]
    exact hl
theorem refHmac_all (k x : ByteArray) (hk : k.size ≤ 140737488351232) (hx : x.size ≤ 140737488351100) (w : World) :
    Calls Try.prog 60 #[.string k, .string x] w fun e w' => e = .returned (.string (hmacW k x)) ∧ Below w.heap.size w w' :=
  hamperref07_Hmac.calls 70 k x _ w (hmac_fR k x hk hx)
theorem refHmac_any (k x : ByteArray) (hk : k.size ≤ 1000) (hx : x.size ≤ 1000) (w : World) :
    Calls Try.prog 60 #[.string k, .string x] w fun e w' => e = .returned (.string (hmacW k x)) ∧ Below w.heap.size w w' := refHmac_all k x (by omega) (by omega) w
/-- What hamperref07.Hmac tells. -/
def ref07_Hmac.f (a0 a1 : ByteArray) : Option ByteArray := if a0.size ≤ 140737488351232 ∧ a1.size ≤ 140737488351100 then some (hmacW a0 a1) else none
theorem ref07_Hmac.calls (a0 a1 r : ByteArray) (w : World) (h : ref07_Hmac.f a0 a1 = some r) : Calls Try.prog 60 #[.string a0, .string a1] w fun e w' => e = .returned (.string r) ∧ Below w.heap.size w w' := by
  unfold ref07_Hmac.f at h
  split at h
  · rename_i hd
    obtain rfl := Option.some.inj h
    exact refHmac_all a0 a1 hd.1 hd.2 w
  · cases h
end Go.Proofs.Ytdegeodegjmddaa.Given

namespace Go.Proofs.Ytdegeodegjmddaa.Given
open Go.RowKit Go.Proofs.YtdegeodegjmddaaW.PrintWords Go.Proofs.YtdegeodegjmddaaW.PrintLast Go.Proofs.YtdegeodegjmddaaW.PrintMore
open Go.Proofs.Ytdegeodegjmddaa.Row Go.Proofs.Ytdegeodegjmddaa.Row.At
set_option maxRecDepth 100000
set_option linter.unusedVariables false
set_option linter.unusedSimpArgs false
theorem uN_size1 (pw first : ByteArray) (n : Nat) (h : 1 ≤ n) : (uN pw first n).size = 32 := by
  obtain ⟨k, rfl⟩ : ∃ k, n = k + 1 := ⟨n - 1, by omega⟩
  exact uN_size _ _ _
set_option maxHeartbeats 2000000 in
theorem refStretch_ok (pw salt : ByteArray) (rounds block : Nat) (w : World) (hp : pw.size ≤ 64) (hs : salt.size = 16) (hr1 : 1 ≤ rounds) (hr2 : rounds ≤ 64) (hb1 : 1 ≤ block) (hb2 : block ≤ 2147483647) :
    Calls Try.prog 39 #[.string pw, .string salt, .int .i64 rounds, .int .i64 block] w fun e w' => e = .returned (.tuple #[.string (stretchW pw salt rounds block), .int .i64 0]) ∧ Below w.heap.size w w' := by
  have g1 : ¬ ((64 : Int) < (pw.size : Int)) := by omega
  have g2 : ((salt.size : Int) != 16) = false := by rw [hs]; rfl
  have g2b : (salt.size : Int) = 16 := by omega
  have g3 : ¬ ((rounds : Int) < 1) := by omega
  have g4 : ¬ ((64 : Int) < (rounds : Int)) := by omega
  have g5 : ¬ ((block : Int) < 1) := by omega
  have g6 : ¬ ((2147483647 : Int) < (block : Int)) := by omega
  have cv := num_conv block hb2 w
  have l0 : salt.size + (numB block).size ≤ 9223372036854775807 := by rw [hs, numB_size]; decide
  have HR := Aside0.mk (And.intro hr1 hr2)
  have HM1 : Aside0 (∀ w, Calls Try.prog 60 #[.string pw, .string (salt ++ numB block)] w fun e w' => e = .returned (.string (uN pw (salt ++ numB block) 1)) ∧ Below w.heap.size w w') := ⟨fun w => refHmac_any pw _ (by omega) (by rw [ByteArray.size_append, hs, numB_size]; omega) w⟩
  have HMN : Aside0 (∀ n w, 1 ≤ n → Calls Try.prog 60 #[.string pw, .string (uN pw (salt ++ numB block) n)] w fun e w' => e = .returned (.string (uN pw (salt ++ numB block) (n + 1))) ∧ Below w.heap.size w w') := ⟨fun n w hn => refHmac_any pw _ (by omega) (by rw [uN_size1 _ _ _ hn]; omega) w⟩
  have HRES : Aside0 (stretchW pw salt rounds block = ⟨(accL (textsL pw (salt ++ numB block) rounds)).toArray⟩) := ⟨rfl⟩
  obtain ⟨res, hres⟩ : ∃ r, r = stretchW pw salt rounds block := ⟨_, rfl⟩
  rw [← hres] at HRES ⊢
  have HT1 : Aside0 ((uN pw (salt ++ numB block) 1).data.toList = accL (textsL pw (salt ++ numB block) 1)) := ⟨(xorA_zero (uN pw (salt ++ numB block) 1) (uN_size1 _ _ _ (Nat.le_refl _))).symm⟩
  obtain ⟨first, hfirst⟩ : ∃ f, f = salt ++ numB block := ⟨_, rfl⟩
  rw [← hfirst] at HM1 HMN HRES HT1
  have HF := Aside0.mk hfirst
  obtain ⟨u1, hu1⟩ : ∃ u, u = uN pw first 1 := ⟨_, rfl⟩
  have hu1s : u1.size = 32 := by rw [hu1]; exact uN_size1 _ _ _ (Nat.le_refl _)
  have HU1 := Aside0.mk hu1
  have HU1s := Aside0.mk hu1s
  rw [← hu1] at HM1 HT1
  rw [hfirst] at HM1
  clear hp hs hr1 hr2 hb1 hb2 hres hfirst hu1 hu1s
  go_enter Try.func39, Try.ntmps39
  go_wp2_with (go_at_call 60; (with_reducible refine (HM1.out _).mono ?_); rintro e w1 ⟨rfl, hb⟩; have HB := Aside0.mk (((Below.refl _ w).alloc (Nat.le_refl _) _).trans (hb.mono (by simp))); clear hb; have hconv := Lib.run_convert_string_bytes (P := Try.prog) w1 9 43 5 u1 Try.underlying9 Try.underlying43 Try.underlying5; rw [HU1s.out] at hconv)
  have HG0 := Aside0.mk (Buf.ofString w1 5 u1)
  rw [HT1.out] at HG0
  have HB0 : Aside0 (Below w.heap.size w (Lib.bytesWorld w1 5 u1)) := ⟨HB.out.trans ((Lib.bytesWorld_below w1 5 u1).mono HB.out.size)⟩
  have HGW : Aside0 (w.heap.size ≤ w1.heap.size) := ⟨HB.out.size⟩
  obtain ⟨g, hg⟩ : ∃ g, g = w1.heap.size := ⟨_, rfl⟩
  obtain ⟨w2, hw2⟩ : ∃ w2, w2 = Lib.bytesWorld w1 5 u1 := ⟨_, rfl⟩
  obtain ⟨cap, hcap⟩ : ∃ cap, cap = grownCap w1 32 0 5 := ⟨_, rfl⟩
  rw [← hw2, ← hg] at HG0
  rw [← hw2] at HB0
  rw [← hg] at HGW
  rw [← hw2, ← hcap, ← hg]
  clear hconv HB hw2 hcap hg
  go_loopg [10, 12] (rounds - 1) (fun gg s10 s12 wr => ∃ i : Nat, 1 ≤ i ∧ i + gg = rounds ∧ s12 = .int .i64 i ∧ s10 = .string (uN pw first i) ∧ Buf wr g 5 (accL (textsL pw first i)) ∧ Below w.heap.size w wr)
  case atStart => exact ⟨1, Nat.le_refl _, by have := HR.out; omega, rfl, by rw [HU1.out], HG0.out, HB0.out⟩
  case round =>
    obtain ⟨i, hi1, hi, rfl, rfl, hga, hba⟩ := hrel
    have HG := Aside0.mk hga; have HB := Aside0.mk hba
    have HL := Aside0.mk (accL_length (textsL pw first i) (textsL_size pw first i))
    clear hga hba HG0 HB0
    obtain ⟨acc, hacc⟩ : ∃ a, a = accL (textsL pw first i) := ⟨_, rfl⟩
    have HACC := Aside0.mk hacc
    rw [← hacc] at HG HL
    have HI := Aside0.mk (And.intro hi1 hi)
    cases gk with
    | zero =>
      have hin : i = rounds := by omega
      subst hin
      have hlt : ¬ ((i : Int) < (i : Int)) := by omega
      have hconv : (convert 43 9 (.slice (some ⟨g, 0, none⟩) 32 cap)).run Try.prog wr = .ok (.string res) wr := by
        have := run_convert_bytes_back (P := Try.prog) wr 43 9 5 ⟨g, 0, none⟩ cap acc Try.underlying43 Try.underlying5 Try.underlying9 (fun j hj => by
          rw [Addr.add_mid, Nat.zero_add, HG.out.cell8 j hj]
          simp [gb, List.getD_eq_getElem?_getD, hj])
        rw [HL.out, hacc, ← HRES.out] at this
        exact this
      clear hacc hi1 hi
      go_wp2
      exact bodyPost_ret (res_tt rfl _ _ _ _ rfl rfl) rfl ⟨rfl, HB.out⟩
    | succ gk1 =>
      have hlt : (i : Int) < (rounds : Int) := by omega
      obtain ⟨u, hu⟩ : ∃ u, u = uN pw first (i + 1) := ⟨_, rfl⟩
      have HU := Aside0.mk hu
      have HUs : Aside0 (u.size = 32) := ⟨by rw [hu]; exact uN_size1 _ _ _ (by omega)⟩
      have HM2 : Aside0 (∀ w, Calls Try.prog 60 #[.string pw, .string (uN pw first i)] w fun e w' => e = .returned (.string u) ∧ Below w.heap.size w w') := ⟨fun w => by rw [hu]; exact HMN.out i w HI.out.1⟩
      clear hacc hi1 hi hu
      go_wp2_with (go_at_call 60; (with_reducible refine (HM2.out _).mono ?_); rintro e w3 ⟨rfl, hb⟩; have n1 := Aside0.mk (HG.out.go hb); have n2 := Aside0.mk (HB.out.trans (hb.mono HB.out.size)); clear HG HB hb; have HG := n1; have HB := n2; clear n1 n2)
      have HG0 : Aside0 (Buf w3 g 5 (xorN acc u 0)) := ⟨by rw [xorN_zero]; exact HG.out⟩
      clear HG
      go_loopg [13] 32 (fun gg s13 wr => ∃ k : Nat, k + gg = 32 ∧ s13 = .int .i64 k ∧ Buf wr g 5 (xorN acc u k) ∧ Below w.heap.size w wr)
      case atStart => exact ⟨0, by omega, rfl, HG0.out, HB.out⟩
      case round =>
        obtain ⟨k, hk, rfl, hga, hba⟩ := hrel
        clear HG0 HB
        have HG := Aside0.mk hga; have HB := Aside0.mk hba
        have HLX := Aside0.mk (xorN_length acc u k HL.out HUs.out)
        clear hga hba
        cases gk with
        | zero =>
          have hk32 : k = 32 := by omega
          subst hk32
          have HE : Aside0 (xorN acc u 32 = accL (textsL pw first (i + 1))) := ⟨by rw [xorN_all _ _ HL.out HUs.out, textsL_succ, accL_snoc, HACC.out, HU.out]⟩
          rw [HE.out] at HG
          have hi64 : (i : Int) ≤ 64 := by have := HI.out; have := HR.out; omega
          clear hk hlt
          go_wp2
          go_roundg gk1
          case measure => omega
          case rel => exact ⟨i + 1, by omega, by have := HI.out; omega, rfl, by rw [HU.out], HG.out, HB.out⟩
        | succ gk2 =>
          have hklt : (k : Int) < 32 := by omega
          have hkn : k < 32 := by omega
          have HK := Aside0.mk (And.intro hk hkn)
          have c1 := HG.out.cell8 k (by rw [HLX.out]; omega)
          have f1 := HG.out.frozen k (by rw [HLX.out]; omega)
          have i1 := index_text u k (by have := HUs.out; omega)
          clear hk hkn hlt
          go_wp2
          refine wp_region_still_tail 10 (by kernel_rfl) (by kernel_rfl) ?_
          simp only [List.take_succ_cons, List.take_zero, List.drop_succ_cons, List.drop_zero]
          iterate 10 still_step
          refine wpStill_nil ?_
          change wpList _ _ _ _ _ wr.drew
          have c1' : wr.drew.cell? { block := g, off := k } = some (Value.int IntKind.u8 ↑(gb (xorN acc u k) k).toNat) := c1
          have f1' : wr.drew.frozen? { block := g, off := k } = false := f1
          rw [u8x]
          obtain ⟨z, hz⟩ : ∃ z, z = gb (xorN acc u k) k ^^^ gb u.data.toList k := ⟨_, rfl⟩
          rw [← hz]
          have HZ := Aside0.mk hz
          clear c1 f1 i1 hz
          go_wp2
          go_roundg gk2
          case measure => omega
          case rel =>
            refine ⟨k + 1, by have := HK.out; omega, rfl, ?_, HB.out.drew.setCell HGW.out _⟩
            have h2 := (HG.out.drew).set8 k (by rw [HLX.out]; exact HK.out.2) z
            rw [HZ.out] at h2 ⊢
            rw [xorN_set _ _ k HL.out HUs.out HK.out.2] at h2
            exact h2
theorem refStretch_arg (pw salt : ByteArray) (rounds block : Int) (w : World) (h : ¬ (pw.size ≤ 64 ∧ salt.size = 16 ∧ 1 ≤ rounds ∧ rounds ≤ 64 ∧ 1 ≤ block ∧ block ≤ 2147483647)) :
    Calls Try.prog 39 #[.string pw, .string salt, .int .i64 rounds, .int .i64 block] w fun e w' => e = .returned (.tuple #[.string ⟨#[]⟩, .int .i64 1]) ∧ w' = w := by
  by_cases g1 : (64 : Int) < (pw.size : Int)
  · clear h
    go_enter Try.func39, Try.ntmps39
    go_wp2
    exact bodyPost_ret (res_tt rfl _ _ _ _ rfl rfl) rfl ⟨rfl, rfl⟩
  by_cases g2 : (salt.size : Int) = 16
  · by_cases g3 : rounds < 1
    · clear h
      go_enter Try.func39, Try.ntmps39
      go_wp2
      exact bodyPost_ret (res_tt rfl _ _ _ _ rfl rfl) rfl ⟨rfl, rfl⟩
    by_cases g4 : 64 < rounds
    · clear h
      go_enter Try.func39, Try.ntmps39
      go_wp2
      exact bodyPost_ret (res_tt rfl _ _ _ _ rfl rfl) rfl ⟨rfl, rfl⟩
    by_cases g5 : block < 1
    · clear h
      go_enter Try.func39, Try.ntmps39
      go_wp2
      exact bodyPost_ret (res_tt rfl _ _ _ _ rfl rfl) rfl ⟨rfl, rfl⟩
    have g6 : 2147483647 < block := by omega
    clear h
    go_enter Try.func39, Try.ntmps39
    go_wp2
    exact bodyPost_ret (res_tt rfl _ _ _ _ rfl rfl) rfl ⟨rfl, rfl⟩
  · have g3 : ((salt.size : Int) != 16) = true := by simp [g2]
    clear h g2
    go_enter Try.func39, Try.ntmps39
    go_wp2
    exact bodyPost_ret (res_tt rfl _ _ _ _ rfl rfl) rfl ⟨rfl, rfl⟩
/-- What hamperref08.Stretch tells. -/
def ref08_Stretch.f (a0 a1 : ByteArray) (a2 a3 : Int) : Option (ByteArray × Int) :=
  if a0.size ≤ 64 ∧ a1.size = 16 ∧ 1 ≤ a2 ∧ a2 ≤ 64 ∧ 1 ≤ a3 ∧ a3 ≤ 2147483647 then some (stretchW a0 a1 a2.toNat a3.toNat, 0) else some (⟨#[]⟩, 1)
theorem ref08_Stretch.calls (a0 a1 : ByteArray) (a2 a3 : Int) (r1 : ByteArray) (r2 : Int) (w : World) (h : ref08_Stretch.f a0 a1 a2 a3 = some (r1, r2)) :
    Calls Try.prog 39 #[.string a0, .string a1, .int .i64 a2, .int .i64 a3] w fun e w' => e = .returned (.tuple #[.string r1, .int .i64 r2]) ∧ Below w.heap.size w w' := by
  unfold ref08_Stretch.f at h
  split at h
  · rename_i hd
    have e := Option.some.inj h
    obtain ⟨h1, h2, h3, h4, h5, h6⟩ := hd
    have e2 : (a2.toNat : Int) = a2 := by omega
    have e3 : (a3.toNat : Int) = a3 := by omega
    have := refStretch_ok a0 a1 a2.toNat a3.toNat w h1 h2 (by omega) (by omega) (by omega) (by omega)
    rw [e2, e3] at this
    injection e with e4 e5
    subst e4; subst e5
    exact this
  · rename_i hd
    have e := Option.some.inj h
    injection e with e4 e5
    subst e4; subst e5
    exact (refStretch_arg a0 a1 a2 a3 w hd).mono fun e w' ⟨h1, h2⟩ => ⟨h1, by rw [h2]; exact Below.refl _ _⟩
end Go.Proofs.Ytdegeodegjmddaa.Given
