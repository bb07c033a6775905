/- Contracts of sha.Sum, of a hash's Sum without one, of Copy, and of sha.Hmac. Conditions: fewer than 2^47 bytes. -/
import Derived.Test.YtbafbpfpnfnikaaShaG
import Derived.Lib.Strings
namespace Go.Proofs.Ytbafbpfpnfnikaa.Given
open Go.RowKit Go.Proofs.YtbafbpfpnfnikaaW.PrintWords Go.Proofs.YtbafbpfpnfnikaaW.PrintLast Go.Proofs.YtbafbpfpnfnikaaW.PrintMore
open Go.Proofs.Ytbafbpfpnfnikaa.Row Go.Proofs.Ytbafbpfpnfnikaa.Row.At
set_option maxRecDepth 100000
set_option linter.unusedVariables false
set_option linter.unusedSimpArgs false
attribute [-simp] Try.isAgg53 Try.sizeOf53
theorem eat_rest : ∀ n s r, n = r.size / 64 → (eat n s r).2.size < 64 ∧ (eat n s r).2.size = r.size % 64
  | 0, s, r, h => by simp only [eat]; omega
  | n + 1, s, r, h => by
    simp only [eat]
    rw [if_pos (by omega)]
    have e : (r.extract 64 r.size).size = r.size - 64 := by rw [ByteArray.size_extract]; omega
    have := eat_rest n (go64S s r.data.toList) (r.extract 64 r.size) (by rw [e]; omega)
    rw [e] at this
    omega
/-- the digest of bytes -/
def shaW (x : ByteArray) : ByteArray := sumW (eat (x.size / 64) H0 x).1 (eat (x.size / 64) H0 x).2 x.size
theorem shaW_size (x : ByteArray) : (shaW x).size = 32 := by rw [shaW, sumW, outW_size]
theorem empty_app (x : ByteArray) : (⟨#[]⟩ : ByteArray) ++ x = x := by apply ByteArray.ext; simp
set_option maxHeartbeats 1000000 in
theorem shaSum0_any (x : ByteArray) (hb : x.size ≤ 140737488351232) (w : World) :
    Calls Try.prog 19 #[.string x] w fun e w' => e = .returned (.string (shaW x)) ∧ Below w.heap.size w w' := by
  have HX := Aside0.mk hb
  clear hb
  go_enter Try.func19, Try.ntmps19
  go_wp2_with (first
    | (go_at_call 14; refine (shaNew_any _).mono ?_; rintro e w1 ⟨rfl, ha, hb⟩; have HA := Aside0.mk ha; have HB := Aside0.mk hb; clear ha hb)
    | (go_at_call 16; refine (shaAdd_any H0 ⟨#[]⟩ x 0 rfl (by have := HX.out; show 0 + x.size ≤ _; omega) (by have := HX.out; omega) w.heap.size _ HA.out).mono ?_; rw [empty_app, Nat.zero_add]; rintro e w2 ⟨rfl, ha, hg⟩; have n1 := Aside0.mk ha; have n2 := Aside0.mk (hg.bel HB.out HB.out.size (Nat.le_refl _)); clear HA HB ha hg; have HA := n1; have HB := n2; clear n1 n2)
    | (go_at_call 17; refine (shaSum_any (eat (x.size / 64) H0 x).1 (eat (x.size / 64) H0 x).2 x.size (eat_length _ _ _ rfl) (eat_rest _ _ _ rfl).1 (by have := HX.out; omega) w.heap.size _ HA.out).mono ?_; rintro e w3 ⟨rfl, hb⟩; have n2 := Aside0.mk (HB.out.trans (hb.mono HB.out.size)); clear HA HB hb; have HB := n2; clear n2))
  go_ret
  exact ⟨rfl, HB.out⟩
theorem shaSum_nil (w : World) :
    Calls Try.prog 17 #[.pointer none] w fun e w' => e = .returned (.string (shaW ⟨#[]⟩)) ∧ Below w.heap.size w w' := by
  go_enter Try.func17, Try.ntmps17
  go_wp2_with (go_at_call 19; refine (shaSum0_any ⟨#[]⟩ (by decide) _).mono ?_; rintro e w3 ⟨rfl, hb⟩; have HB := Aside0.mk hb; clear hb)
  go_ret
  exact ⟨rfl, HB.out⟩
/-- a key, filled up and put together with a byte -/
def padK (key : ByteArray) (c : UInt8) : ByteArray := ⟨((key.data.toList ++ List.replicate (64 - key.size) 0).map (· ^^^ c)).toArray⟩
theorem info64b : (Try.prog.info? 61).map (·.size) = some 64 := by kernel_rfl
def padN (key : ByteArray) (c : UInt8) (i : Nat) : List UInt8 :=
  ((key.data.toList ++ List.replicate (64 - key.size) 0).map (· ^^^ c)).take i ++ (key.data.toList ++ List.replicate (64 - key.size) 0).drop i
theorem padL_length (key : ByteArray) (hk : key.size ≤ 64) : (key.data.toList ++ List.replicate (64 - key.size) (0 : UInt8)).length = 64 := by
  rw [List.length_append, List.length_replicate]
  have : key.data.toList.length = key.size := Array.length_toList
  omega
theorem padN_length (key : ByteArray) (c : UInt8) (i : Nat) (hk : key.size ≤ 64) : (padN key c i).length = 64 := by
  have := padL_length key hk
  simp only [padN, List.length_append, List.length_take, List.length_map, List.length_drop] at this ⊢
  omega
theorem padN_set (key : ByteArray) (c : UInt8) (i : Nat) (hk : key.size ≤ 64) (h : i < 64) : (padN key c i).set i (gb (padN key c i) i ^^^ c) = padN key c (i + 1) := by
  have hl := padL_length key hk
  have hp := padN_length key c i hk
  unfold padN at hp ⊢
  generalize (key.data.toList ++ List.replicate (64 - key.size) (0 : UInt8)) = l at *
  have ht : ((l.map (· ^^^ c)).take i).length = i := by rw [List.length_take, List.length_map]; omega
  have hg : gb ((l.map (· ^^^ c)).take i ++ l.drop i) i = l[i] := by
    rw [gb, List.getD_eq_getElem?_getD, List.getElem?_append_right (by omega), ht, Nat.sub_self, List.getElem?_drop, Nat.add_zero, List.getElem?_eq_getElem (by omega)]
    rfl
  rw [hg, List.set_append_right _ _ (by omega), ht, Nat.sub_self, ← List.take_append_getElem (by rw [List.length_map]; omega : i < (l.map (· ^^^ c)).length), List.append_assoc, ← List.getElem_cons_drop (by omega : i < l.length), List.set_cons_zero]
  simp
attribute [-simp] Try.isAgg61 Try.sizeOf61
set_option maxHeartbeats 1000000 in
theorem with_key (key : ByteArray) (hk : key.size ≤ 64) (c : UInt8) (g : Nat) (w : World) (h : At w g 9 [.string key]) :
    Calls Try.prog 38 #[.int .u8 c.toNat, .pointer (some ⟨g, 0, none⟩)] w fun e w' => e = .returned (.string (padK key c)) ∧ Below w.heap.size w w' := by
  have HK := Aside0.mk hk
  have HH := Aside0.mk h
  have hg := h.lt
  have c1 := h.cell 0 _ rfl
  have c2 : ∀ ob : Obj, (w.alloc ob).cell? ⟨g, 0, none⟩ = some (.string key) := fun ob => (h.alloc ob).cell 0 _ rfl
  clear hk h
  go_enter Try.func38, Try.ntmps38
  go_wp2
  have HL0 : Aside0 (spl (List.replicate 64 (0 : UInt8)) 0 (key.data.toList.take 64) = padN key c 0) := ⟨by
    have hl : key.data.toList.length = key.size := Array.length_toList
    have hk := HK.out
    rw [List.take_of_length_le (by omega), spl, padN]
    simp only [List.take_zero, List.nil_append, Nat.zero_add, List.drop_replicate, List.drop_zero, hl]⟩
  obtain ⟨wa, hwa⟩ : ∃ wa, wa = w.alloc (.cells (b8s (List.replicate 64 0)).toArray 61 (0, 0)) := ⟨_, rfl⟩
  have HA0 : Aside0 (At wa w.heap.size 61 (b8s (List.replicate 64 0))) := ⟨by rw [hwa]; exact At.newAt rfl⟩
  have HB0 : Aside0 (Below w.heap.size w wa) := ⟨by rw [hwa]; exact (Below.refl _ w).alloc (Nat.le_refl _) _⟩
  have c3 : wa.cell? ⟨g, 0, none⟩ = some (.string key) := by rw [hwa]; exact c2 _
  change Code.wp _ _ _ _ (w.alloc (.cells (b8s (List.replicate 64 0)).toArray 61 (0, 0)))
  rw [← hwa]
  clear hwa c1 c2 hg
  have z96 := Try.sizeOf61
  have y96 := Try.isAgg61
  refine wp_region_still_tail 2 (by kernel_rfl) (by kernel_rfl) ?_
  simp only [List.take_succ_cons, List.take_zero, List.drop_succ_cons, List.drop_zero]
  iterate 2 still_step
  refine wpStill_nil ?_
  change wpList _ _ _ _ _ wa.drew
  have HA1 := Aside0.mk HA0.out.drew
  have HB1 := Aside0.mk HB0.out.drew
  clear HA0 HB0 c3 z96 y96
  go_wp2_with (refine HA1.out.copyStr (.tmp 6) (.tmp 7) 37 9 5 0 64 64 key rfl rfl rfl rfl Try.underlying37 (by kernel_rfl) (by rw [List.length_replicate, Nat.zero_add]; exact Nat.min_le_right _ _) ?_; rw [HL0.out]; have n1 := Aside0.mk (HA1.out.setRow (b8s (padN key c 0))); have n2 := Aside0.mk (row_below HB1.out (Nat.le_refl _) (b8s (padN key c 0)).toArray); clear HA1 HB1; have HA1 := n1; have HB1 := n2; clear n1 n2)
  go_loopg [9] 64 (fun gg s9 wx => ∃ i : Nat, i + gg = 64 ∧ s9 = .int .i64 i ∧ At wx w.heap.size 61 (b8s (padN key c i)) ∧ Below w.heap.size w wx)
  case atStart => exact ⟨0, by omega, rfl, HA1.out, HB1.out⟩
  case round =>
    obtain ⟨i, hi, rfl, ha, hb⟩ := hrel
    clear HA1 HB1
    have HA := Aside0.mk ha
    have HB := Aside0.mk hb
    clear ha hb
    have HNL := Aside0.mk (padN_length key c i HK.out)
    cases gk with
    | zero =>
      have hi64 : i = 64 := by omega
      subst hi64
      have z96 := Try.sizeOf61
      have y96 := Try.isAgg61
      have hconv : (convert 37 9 (.slice (some ⟨w.heap.size, 0, none⟩) 64 64)).run Try.prog wr = .ok (.string ⟨(padN key c 64).toArray⟩) wr := by
        have := run_convert_bytes_back (P := Try.prog) wr 37 9 5 ⟨w.heap.size, 0, none⟩ 64 (padN key c 64) Try.underlying37 Try.underlying5 Try.underlying9 (fun j hj => by
          rw [Addr.add_mid, Nat.zero_add, HA.out.cell8 j hj]
          simp [gb, List.getD_eq_getElem?_getD, hj])
        rwa [HNL.out] at this
      go_wp2
      go_ret
      refine ⟨?_, HB.out⟩
      have e : padN key c 64 = (key.data.toList ++ List.replicate (64 - key.size) 0).map (· ^^^ c) := by
        have hl := padL_length key HK.out
        rw [padN, List.take_of_length_le (by rw [List.length_map]; omega), List.drop_of_length_le (by omega), List.append_nil]
      rw [padK, ← e]
      rfl
    | succ gk =>
      have hi64 : (i : Int) < 64 := by omega
      have c1 := HA.out.cell8 i (by rw [HNL.out]; omega)
      have f1 := HA.out.frozen i
      go_wp2
      rw [u8x]
      go_roundg gk
      case measure => omega
      case rel =>
        refine ⟨i + 1, by omega, rfl, ?_, HB.out.setCell (Nat.le_refl _) _⟩
        have h2 := HA.out.set8 i (gb (padN key c i) i ^^^ c)
        rw [padN_set key c i HK.out (by omega)] at h2
        exact h2
/-- the digest of bytes by a key -/
def keyW (key : ByteArray) : ByteArray := if 64 < key.size then shaW key else key
def hmacW (key x : ByteArray) : ByteArray := shaW (padK (keyW key) 92 ++ shaW (padK (keyW key) 54 ++ x))
theorem keyW_size (key : ByteArray) : (keyW key).size ≤ 64 := by
  unfold keyW
  split
  · rw [shaW_size]; decide
  · omega
theorem padK_size (key : ByteArray) (c : UInt8) (h : key.size ≤ 64) : (padK key c).size = 64 := by
  show ((key.data.toList ++ List.replicate (64 - key.size) 0).map (· ^^^ c)).toArray.size = 64
  rw [List.size_toArray, List.length_map, padL_length key h]
set_option maxHeartbeats 1000000 in
theorem hmac_any (key x : ByteArray) (hk : key.size ≤ 140737488351232) (hx : x.size ≤ 140737488351100) (w : World) :
    Calls Try.prog 20 #[.string key, .string x] w fun e w' => e = .returned (.string (hmacW key x)) ∧ Below w.heap.size w w' := by
  obtain ⟨k2, hk2⟩ : ∃ k2, k2 = keyW key := ⟨_, rfl⟩
  obtain ⟨p54, hp54⟩ : ∃ p, p = padK k2 54 := ⟨_, rfl⟩
  obtain ⟨p92, hp92⟩ : ∃ p, p = padK k2 92 := ⟨_, rfl⟩
  obtain ⟨inn, hinn⟩ : ∃ p, p = shaW (p54 ++ x) := ⟨_, rfl⟩
  have hk64 : k2.size ≤ 64 := by rw [hk2]; exact keyW_size key
  have s54 : p54.size = 64 := by rw [hp54]; exact padK_size _ _ hk64
  have s92 : p92.size = 64 := by rw [hp92]; exact padK_size _ _ hk64
  have sin : inn.size = 32 := by rw [hinn]; exact shaW_size _
  have l1 : p54.size + x.size ≤ 9223372036854775807 := by omega
  have l2 : p92.size + inn.size ≤ 9223372036854775807 := by omega
  have HR : Aside0 (hmacW key x = shaW (p92 ++ inn)) := ⟨by rw [hinn, hp92, hp54, hk2]; rfl⟩
  have W54 : Aside0 (∀ g w, At w g 9 [.string k2] → Calls Try.prog 38 #[.int .u8 54, .pointer (some ⟨g, 0, none⟩)] w fun e w' => e = .returned (.string p54) ∧ Below w.heap.size w w') := ⟨fun g w h => by rw [hp54]; exact with_key k2 hk64 54 g w h⟩
  have W92 : Aside0 (∀ g w, At w g 9 [.string k2] → Calls Try.prog 38 #[.int .u8 92, .pointer (some ⟨g, 0, none⟩)] w fun e w' => e = .returned (.string p92) ∧ Below w.heap.size w w') := ⟨fun g w h => by rw [hp92]; exact with_key k2 hk64 92 g w h⟩
  have SUM1 : Aside0 (∀ w, Calls Try.prog 19 #[.string (p54 ++ x)] w fun e w' => e = .returned (.string inn) ∧ Below w.heap.size w w') := ⟨fun w => by rw [hinn]; exact shaSum0_any _ (by rw [ByteArray.size_append, s54]; omega) w⟩
  have SUM2 : Aside0 (∀ w, Calls Try.prog 19 #[.string (p92 ++ inn)] w fun e w' => e = .returned (.string (shaW (p92 ++ inn))) ∧ Below w.heap.size w w') := ⟨fun w => shaSum0_any _ (by rw [ByteArray.size_append, s92, sin]; decide) w⟩
  have SUMK : Aside0 (∀ w, Calls Try.prog 19 #[.string key] w fun e w' => e = .returned (.string (shaW key)) ∧ Below w.heap.size w w') := ⟨fun w => shaSum0_any _ hk w⟩
  rw [HR.out]
  obtain ⟨res, hres⟩ : ∃ r, r = shaW (p92 ++ inn) := ⟨_, rfl⟩
  rw [← hres] at SUM2 ⊢
  have HK2 := Aside0.mk hk2
  clear hk2 hp54 hp92 hinn hk64 s54 s92 sin HR hres hk hx
  by_cases hb : 64 < key.size
  · have hb2 : (64 : Int) < (key.size : Int) := by omega
    have HKK : Aside0 (k2 = shaW key) := ⟨by rw [HK2.out, keyW, if_pos hb]⟩
    clear hb
    obtain ⟨sk, hsk⟩ : ∃ sk, sk = shaW key := ⟨_, rfl⟩
    rw [← hsk] at SUMK HKK
    have HA0 : Aside0 (At (w.alloc (.cells #[.string key] 9 (0, 0))) w.heap.size 9 [.string key]) := ⟨At.newAt rfl⟩
    have HB0 : Aside0 (Below w.heap.size w (w.alloc (.cells #[.string key] 9 (0, 0)))) := ⟨(Below.refl _ w).alloc (Nat.le_refl _) _⟩
    clear hsk
    go_enter Try.func20, Try.ntmps20
    go_wp2_with (first
      | (go_at_call 19; (with_reducible refine (SUMK.out _).mono ?_); rintro e w2 ⟨rfl, hb⟩; have n1 := Aside0.mk (at_go1 HA0.out hb); have n2 := Aside0.mk (HB0.out.trans (hb.mono HB0.out.size)); clear HA0 HB0 hb SUMK; have HA0 := n1; have HB0 := n2; clear n1 n2; have c1 := HA0.out.cell 0 _ rfl; have f1 := HA0.out.frozen 0; have HS0 : Aside0 (At (w2.setCell ⟨w.heap.size, 0, none⟩ (.string sk)) w.heap.size 9 [.string k2]) := ⟨(by rw [HKK.out]; exact HA0.out.set 0 (.string sk))⟩)
      | (go_at_call 38; (with_reducible refine (W92.out w.heap.size _ HS0.out).mono ?_); rintro e w3 ⟨rfl, hb⟩; have HA1 := Aside0.mk (at_go1 HS0.out hb); have HB1 := Aside0.mk ((HB0.out.setCell (p := ⟨w.heap.size, 0, none⟩) (Nat.le_refl _) (.string sk)).trans (hb.mono (by simpa [World.setCell] using HB0.out.size))); clear HA0 HB0 HS0 hb c1 f1)
      | (go_at_call 38; (with_reducible refine (W54.out w.heap.size _ HA1.out).mono ?_); rintro e w4 ⟨rfl, hb⟩; have n2 := Aside0.mk (HB1.out.trans (hb.mono HB1.out.size)); clear HA1 HB1 hb; have HB1 := n2; clear n2)
      | (go_at_call 19; (with_reducible refine (SUM1.out _).mono ?_); rintro e w5 ⟨rfl, hb⟩; have n2 := Aside0.mk (HB1.out.trans (hb.mono HB1.out.size)); clear HB1 hb SUM1; have HB1 := n2; clear n2)
      | (go_at_call 19; (with_reducible refine (SUM2.out _).mono ?_); rintro e w6 ⟨rfl, hb⟩; have n2 := Aside0.mk (HB1.out.trans (hb.mono HB1.out.size)); clear HB1 hb; have HB1 := n2; clear n2))
    go_ret
    exact ⟨rfl, HB1.out⟩
  · have hb2 : ¬ ((64 : Int) < (key.size : Int)) := by omega
    have HKK : Aside0 (k2 = key) := ⟨by rw [HK2.out, keyW, if_neg hb]⟩
    have HA0 : Aside0 (At (w.alloc (.cells #[.string key] 9 (0, 0))) w.heap.size 9 [.string k2]) := ⟨by rw [HKK.out]; exact At.newAt rfl⟩
    have HB0 : Aside0 (Below w.heap.size w (w.alloc (.cells #[.string key] 9 (0, 0)))) := ⟨(Below.refl _ w).alloc (Nat.le_refl _) _⟩
    clear hb SUMK
    go_enter Try.func20, Try.ntmps20
    go_wp2_with (first
      | (go_at_call 38; (with_reducible refine (W92.out w.heap.size _ HA0.out).mono ?_); rintro e w3 ⟨rfl, hb⟩; have HA1 := Aside0.mk (at_go1 HA0.out hb); have HB1 := Aside0.mk (HB0.out.trans (hb.mono HB0.out.size)); clear HA0 HB0 hb)
      | (go_at_call 38; (with_reducible refine (W54.out w.heap.size _ HA1.out).mono ?_); rintro e w4 ⟨rfl, hb⟩; have n2 := Aside0.mk (HB1.out.trans (hb.mono HB1.out.size)); clear HA1 HB1 hb; have HB1 := n2; clear n2)
      | (go_at_call 19; (with_reducible refine (SUM1.out _).mono ?_); rintro e w5 ⟨rfl, hb⟩; have n2 := Aside0.mk (HB1.out.trans (hb.mono HB1.out.size)); clear HB1 hb SUM1; have HB1 := n2; clear n2)
      | (go_at_call 19; (with_reducible refine (SUM2.out _).mono ?_); rintro e w6 ⟨rfl, hb⟩; have n2 := Aside0.mk (HB1.out.trans (hb.mono HB1.out.size)); clear HB1 hb; have HB1 := n2; clear n2))
    go_ret
    exact ⟨rfl, HB1.out⟩
/-- What sha.Sum and sha.Hmac tell. -/
def sha_Sum.f (a0 : ByteArray) : Option ByteArray := if a0.size ≤ 140737488351232 then some (shaW a0) else none
theorem sha_Sum.calls (a0 r : ByteArray) (w : World) (h : sha_Sum.f a0 = some r) : Calls Try.prog 19 #[.string a0] w fun e w' => e = .returned (.string r) ∧ Below w.heap.size w w' := by
  unfold sha_Sum.f at h
  split at h
  · rename_i hd
    obtain rfl := Option.some.inj h
    exact shaSum0_any a0 hd w
  · cases h
def sha_Hmac.f (a0 a1 : ByteArray) : Option ByteArray := if a0.size ≤ 140737488351232 ∧ a1.size ≤ 140737488351100 then some (hmacW a0 a1) else none
theorem sha_Hmac.calls (a0 a1 r : ByteArray) (w : World) (h : sha_Hmac.f a0 a1 = some r) : Calls Try.prog 20 #[.string a0, .string a1] w fun e w' => e = .returned (.string r) ∧ Below w.heap.size w w' := by
  unfold sha_Hmac.f at h
  split at h
  · rename_i hd
    obtain rfl := Option.some.inj h
    exact hmac_any a0 a1 hd.1 hd.2 w
  · cases h
end Go.Proofs.Ytbafbpfpnfnikaa.Given
