/- The walk of hamperlaw10.CbcBlocks: each block of a sealed text, deciphered, is that block of the frame, put together with the block ahead of it. Conditions: none but the statement's own. -/
import Derived.Test.YtfbcgpgpfpnpnaaCbcW
import Derived.Test.YtfbcgpgpfpnpnaaCbcP
import Derived.Lib.QuietBelow
namespace Go.Proofs.Ytfbcgpgpfpnpnaa.Given
open Go.RowKit Go.Proofs.YtfbcgpgpfpnpnaaW.PrintWords Go.Proofs.YtfbcgpgpfpnpnaaW.PrintLast Go.Proofs.YtfbcgpgpfpnpnaaW.PrintMore
open Go.Proofs.Ytfbcgpgpfpnpnaa.Row Go.Proofs.Ytfbcgpgpfpnpnaa.Aes Go.Proofs.Ytfbcgpgpfpnpnaa.Row.At Go.Proofs.Ytfbcgpgpfpnpnaa.Cbc
set_option maxRecDepth 100000
set_option linter.unusedVariables false
set_option linter.unusedSimpArgs false
/-- a block of a text -/
def blk (s : ByteArray) (j : Nat) : ByteArray := s.extract (16 * j) (16 * j + 16)
theorem blk_get (s : ByteArray) (j : Nat) (h : j < s.size / 16) : (blocksOf s)[j]? = some (blk s j) := by simp [blocksOf, h, blk]
theorem blk_size (s : ByteArray) (j : Nat) (h : j < s.size / 16) : (blk s j).size = 16 := by rw [blk, ByteArray.size_extract]; omega
/-- the block ahead -/
def ahead (first s : ByteArray) : Nat → ByteArray
  | 0 => first
  | j + 1 => blk s j
theorem chainC_get (key : ByteArray) : ∀ (l : List ByteArray) (last : ByteArray) (j : Nat) (b : ByteArray), l[j]? = some b →
    (chainC key last l)[j]? = some (encW key (xorW b (match j with | 0 => last | k + 1 => ((chainC key last l)[k]?).getD ⟨#[]⟩)))
  | [], _, _, _, h => by simp at h
  | c :: l, last, 0, b, h => by
    simp only [List.getElem?_cons_zero, Option.some.injEq] at h
    subst h
    simp [chainC]
  | c :: l, last, j + 1, b, h => by
    simp only [List.getElem?_cons_succ] at h
    have := chainC_get key l (encW key (xorW c last)) j b h
    simp only [chainC, List.getElem?_cons_succ]
    rw [this]
    cases j with
    | zero => simp
    | succ k => simp
theorem cbc_block (key first data : ByteArray) (hk : key.size = 32) (hf : first.size = 16) (j : Nat) (h : j < (frameW data).size / 16) :
    decW key (blk (sealW key first data) j) = xorW (blk (frameW data) j) (ahead first (sealW key first data) j) := by
  have hz := sealW_size key first data
  have h2 : j < (sealW key first data).size / 16 := by rw [hz]; exact h
  have g1 := blk_get (sealW key first data) j h2
  rw [blocks_sealW, chainC_get key _ first j _ (blk_get (frameW data) j h)] at g1
  have g2 := Option.some.inj g1
  rw [← g2]
  cases j with
  | zero =>
    show decW key (encW key (xorW (blk (frameW data) 0) first)) = xorW (blk (frameW data) 0) first
    exact decW_encW key _ hk (xorW_size _ _ (blk_size _ _ h) hf)
  | succ j =>
    have h3 : j < (sealW key first data).size / 16 := by omega
    have g3 := blk_get (sealW key first data) j h3
    rw [blocks_sealW] at g3
    show decW key (encW key (xorW (blk (frameW data) (j + 1)) (((chainC key first (blocksOf (frameW data)))[j]?).getD ⟨#[]⟩))) = xorW (blk (frameW data) (j + 1)) (blk (sealW key first data) j)
    rw [g3]
    exact decW_encW key _ hk (xorW_size _ _ (blk_size _ _ h) (blk_size _ _ h3))
theorem xor_gb (a b : ByteArray) (ha : a.size = 16) (hb : b.size = 16) (k : Nat) (hk : k < 16) : gb (xorW a b).data.toList k ^^^ gb b.data.toList k = gb a.data.toList k := by
  have h := xor_xor a b ha hb
  have hx := xorW_size a b ha hb
  have e : gb (xorW (xorW a b) b).data.toList k = gb (xorW a b).data.toList k ^^^ gb b.data.toList k := by
    have l1 : (xorW a b).data.toList.length = 16 := by rw [toList_length, hx]
    have l2 : b.data.toList.length = 16 := by rw [toList_length, hb]
    rw [xorW, bs_toList, xorL]
    simp only [gb, List.getD_eq_getElem?_getD, List.getElem?_zipWith]
    rw [List.getElem?_eq_getElem (by omega), List.getElem?_eq_getElem (by omega)]
    rfl
  rw [← e, h]
theorem gb_blk (s : ByteArray) (j k : Nat) (hk : k < 16) (h : 16 * j + 16 ≤ s.size) : gb (blk s j).data.toList k = gb s.data.toList (16 * j + k) := by
  have hl : s.data.toList.length = s.size := Array.length_toList
  rw [blk, extract_list]
  simp only [gb, List.getD_eq_getElem?_getD, List.getElem?_drop, List.getElem?_take]
  rw [if_pos (by omega)]
theorem index_q (b : ByteArray) (i : Nat) (h : i < b.size) (w : World) : (Instr.index 9 (.string b) (.int .i64 (i : Int))).run Try.prog w = .ok (.int .u8 (gb b.data.toList i).toNat) w := index_str b i h w
set_option maxHeartbeats 8000000 in
theorem CbcBlocks_walk (a0 a1 a2 : ByteArray) (w : World) (w0 : a0.size ≤ 140737488351232) (w1 : a1.size ≤ 140737488351232) (w2 : a2.size ≤ 140737488351232) :
    Calls Try.prog 12 #[.string a0, .string a1, .string a2] w fun e w' => e = .returned (.bool true) ∧ Below w.heap.size w w' := by
  have HB : Aside0 (Below w.heap.size w w) := ⟨Below.refl _ _⟩
  by_cases hk1 : 100 < a0.size
  · have hk2 : (100 : Int) < (a0.size : Int) := by omega
    clear hk1
    go_enter Try.func12, Try.ntmps12
    go_wp2_with (go_at_call 21; (with_reducible refine (awake_any _).mono ?_); rintro e w1 ⟨rfl, hb⟩; have n1 := Aside0.mk (HB.out.trans (hb.mono HB.out.size)); clear HB hb; have HB := n1; clear n1)
    go_ret
    exact ⟨rfl, HB.out⟩
  have hka : ¬ ((100 : Int) < (a0.size : Int)) := by omega
  by_cases hk3 : 100 < a1.size
  · have hk2 : (100 : Int) < (a1.size : Int) := by omega
    clear hk1 hk3
    go_enter Try.func12, Try.ntmps12
    go_wp2_with (go_at_call 21; (with_reducible refine (awake_any _).mono ?_); rintro e w1 ⟨rfl, hb⟩; have n1 := Aside0.mk (HB.out.trans (hb.mono HB.out.size)); clear HB hb; have HB := n1; clear n1)
    go_ret
    exact ⟨rfl, HB.out⟩
  have hkb : ¬ ((100 : Int) < (a1.size : Int)) := by omega
  by_cases hk4 : 600 < a2.size
  · have hk2 : (600 : Int) < (a2.size : Int) := by omega
    clear hk1 hk3 hk4
    go_enter Try.func12, Try.ntmps12
    go_wp2_with (go_at_call 21; (with_reducible refine (awake_any _).mono ?_); rintro e w1 ⟨rfl, hb⟩; have n1 := Aside0.mk (HB.out.trans (hb.mono HB.out.size)); clear HB hb; have HB := n1; clear n1)
    go_ret
    exact ⟨rfl, HB.out⟩
  have hkc : ¬ ((600 : Int) < (a2.size : Int)) := by omega
  have HZ := Aside0.mk (And.intro hk1 (And.intro hk3 hk4))
  clear hk1 hk3 hk4 w0 w1 w2
  by_cases hq : a0.size = 32 ∧ a1.size = 16
  · have HQ := Aside0.mk hq
    obtain ⟨s, hs⟩ : ∃ s, s = sealW a0 a1 a2 := ⟨_, rfl⟩
    obtain ⟨f, hf⟩ : ∃ f, f = frameW a2 := ⟨_, rfl⟩
    have hsf : s.size = f.size := by rw [hs, hf]; exact sealW_size a0 a1 a2
    have hfm : f.size % 16 = 0 := by rw [hf]; exact frameW_mod a2
    have hfz : f.size < 800 := by
      have := frameW_size a2
      have h4 : pad a2.size < 16 := by unfold pad; omega
      have := HZ.out
      rw [hf]; omega
    have HS : Aside0 (∀ w, Calls Try.prog 22 #[.string a0, .string a1, .string a2] w fun e w' => e = .returned (.tuple #[.string s, .int .i64 0]) ∧ Below w.heap.size w w') := ⟨fun w => cbc_Seal.calls _ _ _ _ _ w (by rw [hs]; exact seal_f a0 a1 a2 hq.1 hq.2 (by have := HZ.out; omega))⟩
    have HF : Aside0 (∀ w, Calls Try.prog 26 #[.string a2] w fun e w' => e = .returned (.string f) ∧ Below w.heap.size w w') := ⟨fun w => by rw [hf]; exact Frame_any a2 w (by have := HZ.out; omega)⟩
    have HD : Aside0 (∀ j, j < f.size / 16 → decW a0 (blk s j) = xorW (blk f j) (ahead a1 s j)) := ⟨by rw [hs, hf]; exact fun j h => cbc_block a0 a1 a2 hq.1 hq.2 j h⟩
    have HW := Aside0.mk (And.intro hsf (And.intro hfm hfz))
    have hsi : (s.size : Int) = (f.size : Int) := by omega
    clear hs hf hq hsf hfm hfz
    go_enter Try.func12, Try.ntmps12
    go_wp2_with (first
      | (go_at_call 21; (with_reducible refine (awake_any _).mono ?_); rintro e w1 ⟨rfl, hb⟩; have n1 := Aside0.mk (HB.out.trans (hb.mono HB.out.size)); clear HB hb; have HB := n1; clear n1)
      | (go_at_call 22; (with_reducible refine (HS.out _).mono ?_); rintro e w1 ⟨rfl, hb⟩; have n1 := Aside0.mk (HB.out.trans (hb.mono HB.out.size)); clear HB hb; have HB := n1; clear n1)
      | (go_at_call 17; (with_reducible refine (new_ok a0 HQ.out.1 _).mono ?_); rintro e w' ⟨rfl, hc, hb⟩; have HC := Aside0.mk (Has.mk hc (below_go HB.out hb)); clear HB hc hb)
      | (go_at_call 26; (with_reducible refine (HF.out _).mono ?_); rintro e w3 ⟨rfl, hb⟩; have n1 := Aside0.mk (HC.out.go hb); clear HC hb; have HC := n1; clear n1))
    obtain ⟨g, hg⟩ : ∃ g, g = w1.heap.size := ⟨_, rfl⟩
    rw [← hg] at HC ⊢
    clear hg
    obtain ⟨n, hn⟩ : ∃ n, n = f.size / 16 := ⟨_, rfl⟩
    have HN : Aside0 (f.size = 16 * n ∧ s.size = 16 * n ∧ n < 50) := ⟨by have := HW.out; omega⟩
    have HD2 : Aside0 (∀ j, j < n → decW a0 (blk s j) = xorW (blk f j) (ahead a1 s j)) := ⟨by rw [hn]; exact HD.out⟩
    clear hn HD HW hsi
    go_loopg [11, 12] n (fun gg s11 s12 wx => ∃ j : Nat, j + gg = n ∧ s12 = .int .i64 ((16 * j : Nat) : Int) ∧ s11 = .string (ahead a1 s j) ∧ Has w wx g a0.data.toList)
    case atStart => exact ⟨0, by omega, rfl, rfl, HC.out⟩
    case round =>
      obtain ⟨j, hj, rfl, rfl, hC⟩ := hrel
      clear HC
      have HC := Aside0.mk hC
      clear hC
      obtain ⟨q, hq⟩ : ∃ q, q = 16 * j := ⟨_, rfl⟩
      rw [← hq]
      have hn2 := HN.out
      cases gk with
      | zero =>
        have hlt : ¬ ((q : Int) < (s.size : Int)) := by omega
        clear hj hq hn2
        go_wp2
        go_ret
        exact ⟨rfl, HC.out.bel⟩
      | succ gk =>
        have hlt : (q : Int) < (s.size : Int) := by omega
        have q1 : (q : Int) + 16 ≤ (s.size : Int) := by omega
        have q0 : (0 : Int) ≤ (q : Int) := by omega
        have q2 : (s.size : Int) < 800 := by omega
        have hqq : (q : Int) ≤ (q : Int) + 16 := by omega
        obtain ⟨b, hb⟩ : ∃ b, b = blk s j := ⟨_, rfl⟩
        obtain ⟨p, hp⟩ : ∃ p, p = decW a0 b := ⟨_, rfl⟩
        obtain ⟨lst, hlst⟩ : ∃ l, l = ahead a1 s j := ⟨_, rfl⟩
        have hbz : b.size = 16 := by rw [hb]; exact blk_size s j (by omega)
        have hpz : p.size = 16 := by rw [hp]; exact decW_size _ _
        have hlz : lst.size = 16 := by
          rw [hlst]
          cases j with
          | zero => exact HQ.out.2
          | succ j => exact blk_size s j (by omega)
        have hpe : p = xorW (blk f j) lst := by rw [hp, hb, hlst]; exact HD2.out j (by omega)
        have HX : Aside0 (∀ k, k < 16 → gb p.data.toList k ^^^ gb lst.data.toList k = gb f.data.toList (q + k)) := ⟨fun k hk => by
          rw [hpe, xor_gb _ _ (blk_size f j (by omega)) hlz k hk, gb_blk f j k hk (by omega), hq]⟩
        have HDE : Aside0 (∀ w, At w g 49 (b8s (cipher a0.data.toList)) → Calls Try.prog 15 #[.pointer (some ⟨g, 0, none⟩), .string b] w fun e w' => e = .returned (.tuple #[.string p, .int .i64 0]) ∧ Below w.heap.size w w') := ⟨fun w h => by rw [hp]; exact Decrypt_w a0 b HQ.out.1 hbz g w h⟩
        have he : s.extract q (q + 16) = b := by rw [hb, blk, hq]
        have HJ := Aside0.mk (And.intro hj (And.intro hq (And.intro hb hlz)))
        rw [← hlst]
        clear hj hq hn2 hb hp hpe hlst hbz hlz
        go_wp2_with (go_at_call 15; (with_reducible refine (HDE.out _ HC.out.cip).mono ?_); rintro e w4 ⟨rfl, hb⟩; have n1 := Aside0.mk (HC.out.go hb); clear HC hb; have HC := n1; clear n1)
        go_loopg [15] 16 (fun gg s15 wx => ∃ k : Nat, k + gg = 16 ∧ s15 = .int .i64 k ∧ Has w wx g a0.data.toList)
        case atStart => exact ⟨0, by omega, rfl, HC.out⟩
        case round =>
          obtain ⟨k, hk, rfl, hC⟩ := hrel
          clear HC
          have HC := Aside0.mk hC
          clear hC
          cases gk with
          | zero =>
            have hk16 : k = 16 := by omega
            subst hk16
            go_wp2
            have hj2 := HJ.out
            have hn2 := HN.out
            go_roundg gk
            case measure => omega
            case rel => exact ⟨j + 1, by omega, by congr 1; omega, by rw [hj2.2.2.1]; rfl, HC.out⟩
          | succ gk2 =>
            have hk16 : (k : Int) < 16 := by omega
            have hkn : k < 16 := by omega
            have ix1 : ∀ w, (Instr.index 9 (.string p) (.int .i64 (k : Int))).run Try.prog w = .ok (.int .u8 (gb p.data.toList k).toNat) w := fun w => index_q p k (by omega) w
            have ix2 : ∀ w, (Instr.index 9 (.string lst) (.int .i64 (k : Int))).run Try.prog w = .ok (.int .u8 (gb lst.data.toList k).toNat) w := fun w => index_q lst k (by have := HJ.out; omega) w
            have ix3 : ∀ w, (Instr.index 9 (.string f) (.int .i64 ((q : Int) + (k : Int)))).run Try.prog w = .ok (.int .u8 (gb f.data.toList (q + k)).toNat) w := fun w => by
              have := index_q f (q + k) (by have := HJ.out; have := HN.out; omega) w
              rw [Int.natCast_add] at this
              exact this
            have hx : bits .xor .u8 ((gb p.data.toList k).toNat : Int) ((gb lst.data.toList k).toNat : Int) = ((gb f.data.toList (q + k)).toNat : Int) := by rw [u8x, HX.out k hkn]
            have hadd : IntKind.i64.wrap ((q : Int) + (k : Int)) = (q : Int) + (k : Int) := wrapi_of_bounds (by omega) (by omega)
            go_wp2
            refine wp_region_quiet_below (by kernel_rfl) (by kernel_rfl) ?_
            repeat (quiet_step (fail))
            refine wpQuiet_nil ?_
            intro _ hw'
            obtain ⟨⟨dq, osq⟩, hw''⟩ := hw'
            subst hw''
            clear ix1 ix2 ix3 hx hadd
            have n1 := Aside0.mk (HC.out.go (below_regrown wr dq osq))
            clear HC
            have HC := n1
            clear n1
            go_wp2
            go_roundg gk2
            case measure => omega
            case rel => exact ⟨k + 1, by omega, rfl, HC.out⟩
  · have HQ := Aside0.mk hq
    clear hq
    go_enter Try.func12, Try.ntmps12
    go_wp2_with (first
      | (go_at_call 21; (with_reducible refine (awake_any _).mono ?_); rintro e w1 ⟨rfl, hb⟩; have n1 := Aside0.mk (HB.out.trans (hb.mono HB.out.size)); clear HB hb; have HB := n1; clear n1)
      | (go_at_call 22; (with_reducible refine (seal_arg a0 a1 a2 _ HQ.out).mono ?_); rintro e w1 ⟨rfl, hb⟩; have n1 := Aside0.mk (HB.out.trans (hb.mono HB.out.size)); clear HB hb; have HB := n1; clear n1))
    go_ret
    exact ⟨rfl, HB.out⟩
end Go.Proofs.Ytfbcgpgpfpnpnaa.Given
