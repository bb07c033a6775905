/- The contract of hamperref09.words. Conditions: keys of 32 bytes, and all stand-ins in a row. -/
import Derived.Test.YtdegeodegjmddaaZRefQ1
import Derived.Test.YtdegeodegjmddaaZOwnQ
import Derived.LoopN
namespace Go.Proofs.Ytdegeodegjmddaa.Given
open Go.RowKit Go.Proofs.YtdegeodegjmddaaW.PrintWords Go.Proofs.YtdegeodegjmddaaW.PrintLast Go.Proofs.YtdegeodegjmddaaW.PrintMore
open Go.Proofs.Ytdegeodegjmddaa.Row Go.Proofs.Ytdegeodegjmddaa.Aes Go.Proofs.Ytdegeodegjmddaa.Row.At
set_option maxRecDepth 100000
set_option linter.unusedVariables false
set_option linter.unusedSimpArgs false
set_option maxHeartbeats 4000000 in
theorem words_any (key : ByteArray) (hk : key.size = 32) (gt ct Bt : Nat) (w : World) (ht : Row.Own w Bt 5 (.slice (some ⟨gt, 0, none⟩) 256 ct) (b8s sbox)) :
    Calls Try.prog 72 #[.string key, .slice (some ⟨gt, 0, none⟩) 256 ct] w fun e w' => ∃ g cap, e = .returned (.slice (some ⟨g, 0, none⟩) 240 cap) ∧ Row.Own w' w.heap.size 5 (.slice (some ⟨g, 0, none⟩) 240 cap) (b8s (ex key.data.toList 60)) ∧ Below w.heap.size w w' := by
  have hconv := Lib.run_convert_string_bytes (P := Try.prog) w 9 43 5 key Try.underlying9 Try.underlying43 Try.underlying5
  rw [hk] at hconv
  have HKL : Aside0 (key.data.toList.length = 32) := ⟨hk⟩
  have HO0 := Aside0.mk (Row.Own.ofString w 5 key (Nat.le_refl _) (by rw [hk]; decide))
  rw [hk] at HO0
  have HBW := Aside0.mk (Lib.bytesWorld_below w 5 key)
  obtain ⟨W1, hW1⟩ : ∃ W1, W1 = Lib.bytesWorld w 5 key := ⟨_, rfl⟩
  obtain ⟨vc, hvc⟩ : ∃ vc, vc = grownCap w 32 0 5 := ⟨_, rfl⟩
  rw [← hW1] at hconv HO0 HBW
  rw [← hvc] at hconv HO0
  obtain ⟨kb, hkb⟩ : ∃ l, l = key.data.toList := ⟨_, rfl⟩
  rw [← hkb] at HO0 HKL ⊢
  have HT := Aside0.mk ht
  have HO1 : Aside0 (Row.Own W1 w.heap.size 5 (.slice (some ⟨w.heap.size, 0, none⟩) 32 vc) (b8s ((ex kb 8).take (4 * 8)))) := ⟨by rw [ex_eight kb HKL.out]; exact HO0.out⟩
  clear hW1 hvc hkb hk ht HO0
  go_enter Try.func72, Try.ntmps72
  go_wp2
  clear hconv
  go_loopg [5, 6, 7] 52 (fun gg s5 s6 s7 wr => ∃ n : Nat, 8 ≤ n ∧ n + gg = 60 ∧ s7 = .int .i64 n ∧ s6 = .int .u8 ((pow ((n - 1) / 8)).toNat : Int) ∧ Row.Own wr w.heap.size 5 s5 (b8s ((ex kb n).take (4 * n))) ∧ Below w.heap.size w wr)
  case atStart => exact ⟨8, by omega, by omega, rfl, rfl, HO1.out, HBW.out⟩
  case round =>
    obtain ⟨n, hn8, hn, rfl, rfl, ho, hb⟩ := hrel
    clear HO1 HBW
    have HO := Aside0.mk ho
    have HB := Aside0.mk hb
    clear ho hb
    have hxl : (ex kb n).length = 240 := ex_length kb HKL.out n (by omega)
    have hll : ((ex kb n).take (4 * n)).length = 4 * n := by rw [List.length_take, hxl]; omega
    cases gk with
    | zero =>
      have hn60 : n = 60 := by omega
      subst hn60
      have hl : (b8s ((ex kb 60).take (4 * 60))).length = 240 := by rw [b8s_length, hll]
      obtain ⟨g, cap, rfl, _, _⟩ := HO.out.form hl (by decide)
      have e : (ex kb 60).take (4 * 60) = ex kb 60 := List.take_of_length_le (by omega)
      rw [e] at HO
      clear hn hn8 hxl hll hl e
      go_wp2
      go_ret
      exact ⟨g, cap, rfl, HO.out, HB.out⟩
    | succ gk0 =>
      have hlt : (n : Int) < 60 := by omega
      obtain ⟨P, hP⟩ : ∃ P, P = pow ((n - 1) / 8) := ⟨_, rfl⟩
      rw [← hP]
      have HP := Aside0.mk hP
      clear hP
      obtain ⟨W, hW⟩ : ∃ W, W = ex kb n := ⟨_, rfl⟩
      rw [← hW] at HO hxl hll
      obtain ⟨q, hq⟩ : ∃ q, q = 4 * n := ⟨_, rfl⟩
      obtain ⟨p, hp⟩ : ∃ p, p + 4 = q := ⟨q - 4, by omega⟩
      rw [← hq] at HO hll
      have hl : (b8s (W.take q)).length = q := by rw [b8s_length, hll]
      obtain ⟨g5, c5, h5f, hg5, hg5l⟩ := HO.out.form hl (by omega)
      subst h5f
      have hcap : q ≤ c5 := HO.out.cap_le
      have h0n : (0 : Int) ≤ (n : Int) := by omega
      have q1 : 4 * (n : Int) = (q : Int) := by omega
      have q2 : (q : Int) - 4 = (p : Int) := by omega
      have q3 : (0 : Int) ≤ (p : Int) := by omega
      have q4 : (p : Int) ≤ (q : Int) := by omega
      have q5 : (q : Int) ≤ (c5 : Int) := by omega
      have q6 : q - p = 4 := by omega
      have HN := Aside0.mk (And.intro hn8 (And.intro hn (And.intro hq hp)))
      have HWL := Aside0.mk (And.intro hxl (And.intro hll hW))
      have hpl : p + 4 ≤ (W.take q).length := by omega
      obtain ⟨a0, ha0⟩ : ∃ a, a = gb W p := ⟨_, rfl⟩
      obtain ⟨a1, ha1⟩ : ∃ a, a = gb W (p + 1) := ⟨_, rfl⟩
      obtain ⟨a2, ha2⟩ : ∃ a, a = gb W (p + 2) := ⟨_, rfl⟩
      obtain ⟨a3, ha3⟩ : ∃ a, a = gb W (p + 3) := ⟨_, rfl⟩
      have HX0 : Aside0 (((b8s (W.take q)).drop p).take 4 = b8s [a0, a1, a2, a3]) := ⟨by
        have e := take4 (W.take q) p hpl
        rw [gb_take _ _ _ (by omega), gb_take _ _ _ (by omega), gb_take _ _ _ (by omega), gb_take _ _ _ (by omega), ← ha0, ← ha1, ← ha2, ← ha3] at e
        rw [b8s, ← List.map_drop, ← List.map_take, e]; rfl⟩
      have HAA := Aside0.mk (And.intro ha0 (And.intro ha1 (And.intro ha2 ha3)))
      have HPT := Aside0.mk ((HO.out.alloc (.cells #[] 5 (0, 0))).part p 4 (by rw [b8s_length]; omega))
      rw [HX0.out] at HPT
      obtain ⟨Bx, hBx⟩ : ∃ B, B = wr.heap.size := ⟨_, rfl⟩
      have HBx := Aside0.mk (And.intro hBx HB.out.size)
      have HE := Aside0.mk (own_none wr 5 (Nat.le_of_eq hBx))
      have HEs : Aside0 (Bx ≤ (wr.alloc (.cells #[] 5 (0, 0))).heap.size) := ⟨by simp; omega⟩
      clear hn8 hn hq hp hxl hll hW hl hg5 hg5l hcap hpl ha0 ha1 ha2 ha3 hBx
      have HG5 : Aside0 (g5 < Bx) := ⟨by have := HO.out.lt g5 rfl; have := HBx.out.1; omega⟩
      obtain hc | hc | hc : n % 8 = 0 ∨ n % 8 = 4 ∨ (n % 8 ≠ 0 ∧ n % 8 ≠ 4) := by omega
      ·
        have t0 : ((n : Int) % 8 == 0) = true := by rw [beq_iff_eq]; omega
        have HC := Aside0.mk hc
        clear hc
        go_wp2_with ((with_reducible refine gate_builtin (b := .append) (xs := #[.tmp 16, .tmp 23]) rfl ?_); at_builtin; refine HE.out.append8 HEs.out rfl _ _ rfl rfl ⟨g5, p, none⟩ 4 (c5 - p) (b8s [a0, a1, a2, a3]) rfl rfl HPT.out (b8s_ones [a0, a1, a2, a3]) (by simp) ?_; intro v8 w2 h8 b8 _; have H8 := Aside0.mk h8; have HB8 := Aside0.mk (((Below.refl Bx wr).alloc (Nat.le_of_eq HBx.out.1) _).trans b8); clear h8 b8)
        have HO2 : Aside0 (Row.Own w2 w.heap.size 5 (.slice (some ⟨g5, 0, none⟩) q c5) (b8s (W.take q))) := ⟨HO.out.below HB8.out (Nat.le_of_eq HBx.out.1.symm)⟩
        have HB2 : Aside0 (Below w.heap.size w w2) := ⟨HB.out.trans (HB8.out.mono (by have := HBx.out; omega))⟩
        have h8 : Row.Own w2 Bx 5 v8 (b8s [a0, a1, a2, a3]) := H8.out
        obtain ⟨g8, c8, h8f, hg8, _⟩ := h8.form (n := 4) rfl (by decide)
        subst h8f
        have H8 := Aside0.mk h8
        have HB8s : Aside0 (Bx ≤ w2.heap.size) := ⟨(by have h1 := HB8.out.size; have h2 := HBx.out; omega)⟩
        clear h8 HE HEs HPT HX0 HO HB HB8 q6
        have HT2 : Aside0 (Row.Own w2 Bt 5 (.slice (some ⟨gt, 0, none⟩) 256 ct) (b8s sbox)) := ⟨HT.out.go HB2.out⟩
        have x0 : w2.cell? ⟨g8, 0, none⟩ = some (.int .u8 (a0.toNat : Int)) := H8.out.cell 0 _ rfl
        have x1 : w2.cell? ⟨g8, 1, none⟩ = some (.int .u8 (a1.toNat : Int)) := H8.out.cell 1 _ rfl
        have x2 : w2.cell? ⟨g8, 2, none⟩ = some (.int .u8 (a2.toNat : Int)) := H8.out.cell 2 _ rfl
        have x3 : w2.cell? ⟨g8, 3, none⟩ = some (.int .u8 (a3.toNat : Int)) := H8.out.cell 3 _ rfl
        have k0 := HT2.out.cell a0.toNat _ (b8s_get sbox a0.toNat (by rw [sbox_length]; exact a0.toNat_lt))
        have bk0 : (a0.toNat : Int) < 256 := by have := a0.toNat_lt; omega
        have nk0 : (0 : Int) ≤ (a0.toNat : Int) := by omega
        have wk0 : (a0.toNat : Int).toNat = a0.toNat := by omega
        have k1 := HT2.out.cell a1.toNat _ (b8s_get sbox a1.toNat (by rw [sbox_length]; exact a1.toNat_lt))
        have bk1 : (a1.toNat : Int) < 256 := by have := a1.toNat_lt; omega
        have nk1 : (0 : Int) ≤ (a1.toNat : Int) := by omega
        have wk1 : (a1.toNat : Int).toNat = a1.toNat := by omega
        have k2 := HT2.out.cell a2.toNat _ (b8s_get sbox a2.toNat (by rw [sbox_length]; exact a2.toNat_lt))
        have bk2 : (a2.toNat : Int) < 256 := by have := a2.toNat_lt; omega
        have nk2 : (0 : Int) ≤ (a2.toNat : Int) := by omega
        have wk2 : (a2.toNat : Int).toNat = a2.toNat := by omega
        have k3 := HT2.out.cell a3.toNat _ (b8s_get sbox a3.toNat (by rw [sbox_length]; exact a3.toNat_lt))
        have bk3 : (a3.toNat : Int) < 256 := by have := a3.toNat_lt; omega
        have nk3 : (0 : Int) ≤ (a3.toNat : Int) := by omega
        have wk3 : (a3.toNat : Int).toNat = a3.toNat := by omega
        refine wp_region_still_tail 26 (by kernel_rfl) (by kernel_rfl) ?_
        simp only [List.take_succ_cons, List.take_zero, List.drop_succ_cons, List.drop_zero]
        iterate 26 still_step
        refine wpStill_nil ?_
        change wpList _ _ _ _ _ w2.drew
        rw [u8x]
        obtain ⟨y0, hy0⟩ : ∃ y, y = gb sbox a1.toNat ^^^ P := ⟨_, rfl⟩
        obtain ⟨y1, hy1⟩ : ∃ y, y = gb sbox a2.toNat := ⟨_, rfl⟩
        obtain ⟨y2, hy2⟩ : ∃ y, y = gb sbox a3.toNat := ⟨_, rfl⟩
        obtain ⟨y3, hy3⟩ : ∃ y, y = gb sbox a0.toNat := ⟨_, rfl⟩
        rw [← hy0, ← hy1, ← hy2, ← hy3]
        have HD : Aside0 (wordD W n = [y0, y1, y2, y3]) := ⟨by
          have h1 := HN.out
          obtain ⟨e0, e1, e2, e3⟩ := HAA.out
          rw [wordD_0 W n p (by omega) (by have := HWL.out; omega) HC.out, ← e0, ← e1, ← e2, ← e3, ← HP.out, hy0, hy1, hy2, hy3]⟩
        have HPN : Aside0 (pow ((n + 1 - 1) / 8) = times P 2) := ⟨by rw [Nat.add_sub_cancel, HP.out]; exact pow_next n HN.out.1 HC.out⟩
        have HMU : Aside0 (∀ w, Calls Try.prog 73 #[.int .u8 (P.toNat : Int), .int .u8 2] w fun e w' => e = .returned (.int .u8 ((times P 2).toNat : Int)) ∧ w' = w) := ⟨fun w => mul_any P 2 w⟩
        clear hy0 hy1 hy2 hy3
        clear x0 x1 x2 x3 k0 k1 k2 k3 bk0 bk1 bk2 bk3 nk0 nk1 nk2 nk3 wk0 wk1 wk2 wk3
        go_wp2_with (go_at_call 73; (with_reducible refine (HMU.out _).mono ?_); rintro e w' ⟨rfl, rfl⟩)
        have HXI : Aside0 (Row.Own (w2.alloc (.cells #[.int .u8 (y0.toNat : Int), .int .u8 (y1.toNat : Int), .int .u8 (y2.toNat : Int), .int .u8 (y3.toNat : Int)] 5)).drew Bx 5 (.slice (some ⟨w2.heap.size, 0, none⟩) 4 4) (b8s [y0, y1, y2, y3])) := ⟨(Row.Own.build w2 (b8s [y0, y1, y2, y3]) 5 (by have h1 := HB8s.out; omega) (by show 4 ≤ maxLen; decide)).drew⟩
        have HOI : Aside0 (Row.Own (w2.alloc (.cells #[.int .u8 (y0.toNat : Int), .int .u8 (y1.toNat : Int), .int .u8 (y2.toNat : Int), .int .u8 (y3.toNat : Int)] 5)).drew w.heap.size 5 (.slice (some ⟨g5, 0, none⟩) q c5) (b8s (W.take q))) := ⟨(HO2.out.alloc _).drew⟩
        have HBI : Aside0 (Below w.heap.size w (w2.alloc (.cells #[.int .u8 (y0.toNat : Int), .int .u8 (y1.toNat : Int), .int .u8 (y2.toNat : Int), .int .u8 (y3.toNat : Int)] 5)).drew) := ⟨(HB2.out.alloc HB2.out.size _).drew⟩
        obtain ⟨gx, hgx⟩ : ∃ g, g = w2.heap.size := ⟨_, rfl⟩
        obtain ⟨wI, hwI⟩ : ∃ x, x = (w2.alloc (.cells #[.int .u8 (y0.toNat : Int), .int .u8 (y1.toNat : Int), .int .u8 (y2.toNat : Int), .int .u8 (y3.toNat : Int)] 5)).drew := ⟨_, rfl⟩
        rw [← hwI, ← hgx] at HXI
        rw [← hwI] at HOI HBI
        rw [← hwI, ← hgx]
        clear hwI hgx HO2 HB2 HT2 H8
        have HYX : Aside0 (wI.heap.size = wI.heap.size ∧ Bx ≤ gx ∧ g5 < gx) := ⟨rfl, by have h1 := HXI.out.lt gx rfl; exact h1.1, by have h1 := HXI.out.lt gx rfl; have h2 := HG5.out; omega⟩
        obtain ⟨r, hr⟩ : ∃ r, r + 32 = q := ⟨q - 32, by have := HN.out; omega⟩
        have HRr := Aside0.mk hr
        obtain ⟨L, hL⟩ : ∃ L, L = (List.range 4).map (nextF W n) := ⟨_, rfl⟩
        have HL : Aside0 (L.length = 4 ∧ ∀ k, k < 4 → L[k]? = some (nextF W n k)) := ⟨by rw [hL]; simp, fun k hk => by rw [hL]; simp [hk]⟩
        have HLe := Aside0.mk hL
        have HOI0 : Aside0 (Row.Own wI w.heap.size 5 (.slice (some ⟨g5, 0, none⟩) q c5) (b8s (W.take q ++ L.take 0))) := ⟨by rw [List.take_zero, List.append_nil]; exact HOI.out⟩
        clear hr hL HOI
        go_loopg [5, 9] 4 (fun gg s5 s9 wr => ∃ k : Nat, k + gg = 4 ∧ s9 = .int .i64 k ∧ Row.Own wr w.heap.size 5 s5 (b8s (W.take q ++ L.take k)) ∧ Row.Own wr Bx 5 (.slice (some ⟨gx, 0, none⟩) 4 4) (b8s [y0, y1, y2, y3]) ∧ s5.ownBlock ≠ some gx ∧ Below w.heap.size w wr)
        case atStart => exact ⟨0, by omega, rfl, HOI0.out, HXI.out, by have := HYX.out; simp [Value.ownBlock]; omega, HBI.out⟩
        case round =>
          obtain ⟨k, hk, rfl, ho, hx, hne, hb⟩ := hrel
          clear HOI0 HXI HBI
          have HO3 := Aside0.mk ho
          have HX3 := Aside0.mk hx
          have HB3 := Aside0.mk hb
          have HNE := Aside0.mk hne
          clear ho hx hb hne
          cases gk with
          | zero =>
            have hk4 : k = 4 := by omega
            subst hk4
            have HE2 : Aside0 (W.take q ++ L.take 4 = (ex kb (n + 1)).take (4 * (n + 1))) := ⟨by
              have h1 := HN.out
              have h2 := HWL.out
              rw [show L.take 4 = L from List.take_of_length_le (by rw [HL.out.1]; exact Nat.le_refl _), ex_next kb HKL.out n h1.1 (by omega), ← h2.2.2, ← h1.2.2.1, HLe.out]⟩
            rw [HE2.out] at HO3
            clear hk
            go_wp2
            go_roundg gk0
            case measure => omega
            case rel => exact ⟨n + 1, by have := HN.out; omega, by have := HN.out; omega, rfl, by rw [HPN.out], HO3.out, HB3.out⟩
          | succ gk1 =>
            have hk4 : (k : Int) < 4 := by omega
            have hkn : k < 4 := by omega
            have h0k : (0 : Int) ≤ (k : Int) := by omega
            have hlk : (W.take q ++ L.take k).length = q + k := by rw [List.length_append, HWL.out.2.1, List.length_take, HL.out.1]; omega
            have hl3 : (b8s (W.take q ++ L.take k)).length = q + k := by rw [b8s_length, hlk]
            obtain ⟨g6, c6, h6f, _, _⟩ := HO3.out.form hl3 (by have := HRr.out; omega)
            subst h6f
            obtain ⟨m, hm⟩ : ∃ m, m = r + k := ⟨_, rfl⟩
            obtain ⟨Lk, hLk⟩ : ∃ l, l = q + k := ⟨_, rfl⟩
            rw [← hLk] at HO3 HNE hl3 ⊢
            have HL3 := Aside0.mk hl3
            have d32 : (q : Int) - 32 = (r : Int) := by have := HRr.out; omega
            have eq' : IntKind.i64.wrap (q : Int) = (q : Int) := wrapi_of_bounds (by omega) (by have := HN.out; omega)
            have er : IntKind.i64.wrap (r : Int) = (r : Int) := wrapi_of_bounds (by omega) (by have := HN.out; omega)
            have sm : (r : Int) + (k : Int) = (m : Int) := by omega
            have em : IntKind.i64.wrap (m : Int) = (m : Int) := wrapi_of_bounds (by omega) (by have := HN.out; have := HRr.out; omega)
            have lm : (m : Int) < (Lk : Int) := by have := HRr.out; omega
            have nm : (0 : Int) ≤ (m : Int) := by omega
            have hgm : gb (W.take q ++ L.take k) m = gb W m := by
              have hmq : m < q := by have := HRr.out; omega
              simp only [gb, List.getD_eq_getElem?_getD]
              rw [List.getElem?_append_left (by rw [HWL.out.2.1]; exact hmq), List.getElem?_take, if_pos hmq]
            have cm := HO3.out.cell m _ (b8s_get _ m (by rw [hlk]; have := HRr.out; omega))
            rw [hgm] at cm
            have cxx := HX3.out.cell k _ (b8s_get [y0, y1, y2, y3] k hkn)
            have HNX : Aside0 (nextF W n k = gb W m ^^^ gb [y0, y1, y2, y3] k) := ⟨by
              have h1 := HN.out
              have h2 := HRr.out
              rw [nextF, HD.out, show (n - 8) * 4 + k = m by omega]⟩
            have HK := Aside0.mk (And.intro hk hkn)
            have HS3 : Aside0 (w.heap.size ≤ wr.heap.size) := ⟨HB3.out.size⟩
            clear hm hLk hlk hl3 hgm hk hkn
            go_wp2
            refine wp_region_early 14 (.slice (some ⟨g6, 0, none⟩) Lk c6) (by kernel_rfl) (by kernel_rfl) (fun _ _ _ h => h) (.inl ⟨rfl, fun _ => rfl⟩) ?_
            simp only [List.take_succ_cons, List.take_zero, List.drop_succ_cons, List.drop_zero, Act.put, List.setIfInBounds_toArray, List.set_cons_zero, List.set_cons_succ, Nat.reduceSub]
            repeat still_step
            refine wpStill_nil ?_
            change wpList _ _ _ _ _ wr.drew
            rw [u8x]
            obtain ⟨z, hz⟩ : ∃ z, z = gb W m ^^^ gb [y0, y1, y2, y3] k := ⟨_, rfl⟩
            rw [← hz]
            rw [← hz] at HNX
            clear hz cm cxx d32 eq' er sm em lm nm
            have HOd : Aside0 (Row.Own wr.drew w.heap.size 5 (.slice (some ⟨g6, 0, none⟩) Lk c6) (b8s (W.take q ++ L.take k))) := ⟨HO3.out.drew⟩
            have HXd : Aside0 (Row.Own wr.drew Bx 5 (.slice (some ⟨gx, 0, none⟩) 4 4) (b8s [y0, y1, y2, y3])) := ⟨HX3.out.drew⟩
            have HSd : Aside0 (w.heap.size ≤ wr.drew.heap.size) := ⟨HS3.out⟩
            have HLQ : Aside0 ((b8s (W.take q ++ L.take k)).length + 1 ≤ 140737488355328) := ⟨by rw [HL3.out]; have h1 := HN.out; have h2 := HK.out; have h3 := HL3.out; rw [b8s_length, List.length_append, HWL.out.2.1, List.length_take, HL.out.1] at h3; omega⟩
            have HGX : Aside0 (gx < wr.drew.heap.size) := ⟨(HXd.out.lt gx rfl).2⟩
            go_wp2_with ((with_reducible refine gate_builtin (b := .append) (xs := #[.tmp 89, .tmp 103]) rfl ?_); at_builtin; refine HOd.out.push8x HSd.out rfl _ _ rfl rfl rfl HLQ.out ?_; intro v5 w5 h5 b5 keep hor; have n1 := Aside0.mk h5; have n2 := Aside0.mk ((HB3.out.trans (Below.refl _ wr).drew).trans b5); have n3 := Aside0.mk (keep _ _ _ _ HXd.out (.inr (fun e => HNE.out e.symm))); have n4 : Aside0 (v5.ownBlock ≠ some gx) := ⟨own_ne hor HNE.out HGX.out⟩; clear HO3 HOd HX3 HXd HB3 HNE h5 b5 keep hor; have HO3 := n1; have HB3 := n2; have HX3 := n3; have HNE := n4; clear n1 n2 n3 n4)
            go_roundg gk1
            case measure => omega
            case rel =>
              refine ⟨k + 1, by have := HK.out; omega, rfl, ?_, HX3.out, HNE.out, HB3.out⟩
              have h3 := HO3.out
              have e : L.take (k + 1) = L.take k ++ [nextF W n k] := by
                have hkl : k < L.length := by rw [HL.out.1]; exact HK.out.2
                rw [← List.take_append_getElem hkl]
                congr 2
                have h4 := HL.out.2 k HK.out.2
                rw [List.getElem?_eq_getElem hkl] at h4
                exact Option.some.inj h4
              rw [e, HNX.out, ← List.append_assoc, b8s, List.map_append]
              exact h3
      ·
        have t0 : ((n : Int) % 8 == 0) = false := by rw [beq_eq_false_iff_ne]; omega
        have t4 : ((n : Int) % 8 == 4) = true := by rw [beq_iff_eq]; omega
        have HC := Aside0.mk hc
        clear hc
        go_wp2_with ((with_reducible refine gate_builtin (b := .append) (xs := #[.tmp 16, .tmp 23]) rfl ?_); at_builtin; refine HE.out.append8 HEs.out rfl _ _ rfl rfl ⟨g5, p, none⟩ 4 (c5 - p) (b8s [a0, a1, a2, a3]) rfl rfl HPT.out (b8s_ones [a0, a1, a2, a3]) (by simp) ?_; intro v8 w2 h8 b8 _; have H8 := Aside0.mk h8; have HB8 := Aside0.mk (((Below.refl Bx wr).alloc (Nat.le_of_eq HBx.out.1) _).trans b8); clear h8 b8)
        have HO2 : Aside0 (Row.Own w2 w.heap.size 5 (.slice (some ⟨g5, 0, none⟩) q c5) (b8s (W.take q))) := ⟨HO.out.below HB8.out (Nat.le_of_eq HBx.out.1.symm)⟩
        have HB2 : Aside0 (Below w.heap.size w w2) := ⟨HB.out.trans (HB8.out.mono (by have := HBx.out; omega))⟩
        have h8 : Row.Own w2 Bx 5 v8 (b8s [a0, a1, a2, a3]) := H8.out
        obtain ⟨g8, c8, h8f, hg8, _⟩ := h8.form (n := 4) rfl (by decide)
        subst h8f
        have H8 := Aside0.mk h8
        have HB8s : Aside0 (Bx ≤ w2.heap.size) := ⟨(by have h1 := HB8.out.size; have h2 := HBx.out; omega)⟩
        clear h8 HE HEs HPT HX0 HO HB HB8 q6
        have HT2 : Aside0 (Row.Own w2 Bt 5 (.slice (some ⟨gt, 0, none⟩) 256 ct) (b8s sbox)) := ⟨HT.out.go HB2.out⟩
        have x0 : w2.cell? ⟨g8, 0, none⟩ = some (.int .u8 (a0.toNat : Int)) := H8.out.cell 0 _ rfl
        have x1 : w2.cell? ⟨g8, 1, none⟩ = some (.int .u8 (a1.toNat : Int)) := H8.out.cell 1 _ rfl
        have x2 : w2.cell? ⟨g8, 2, none⟩ = some (.int .u8 (a2.toNat : Int)) := H8.out.cell 2 _ rfl
        have x3 : w2.cell? ⟨g8, 3, none⟩ = some (.int .u8 (a3.toNat : Int)) := H8.out.cell 3 _ rfl
        have k0 := HT2.out.cell a0.toNat _ (b8s_get sbox a0.toNat (by rw [sbox_length]; exact a0.toNat_lt))
        have bk0 : (a0.toNat : Int) < 256 := by have := a0.toNat_lt; omega
        have nk0 : (0 : Int) ≤ (a0.toNat : Int) := by omega
        have wk0 : (a0.toNat : Int).toNat = a0.toNat := by omega
        have k1 := HT2.out.cell a1.toNat _ (b8s_get sbox a1.toNat (by rw [sbox_length]; exact a1.toNat_lt))
        have bk1 : (a1.toNat : Int) < 256 := by have := a1.toNat_lt; omega
        have nk1 : (0 : Int) ≤ (a1.toNat : Int) := by omega
        have wk1 : (a1.toNat : Int).toNat = a1.toNat := by omega
        have k2 := HT2.out.cell a2.toNat _ (b8s_get sbox a2.toNat (by rw [sbox_length]; exact a2.toNat_lt))
        have bk2 : (a2.toNat : Int) < 256 := by have := a2.toNat_lt; omega
        have nk2 : (0 : Int) ≤ (a2.toNat : Int) := by omega
        have wk2 : (a2.toNat : Int).toNat = a2.toNat := by omega
        have k3 := HT2.out.cell a3.toNat _ (b8s_get sbox a3.toNat (by rw [sbox_length]; exact a3.toNat_lt))
        have bk3 : (a3.toNat : Int) < 256 := by have := a3.toNat_lt; omega
        have nk3 : (0 : Int) ≤ (a3.toNat : Int) := by omega
        have wk3 : (a3.toNat : Int).toNat = a3.toNat := by omega
        refine wp_region_still_tail 24 (by kernel_rfl) (by kernel_rfl) ?_
        simp only [List.take_succ_cons, List.take_zero, List.drop_succ_cons, List.drop_zero]
        iterate 24 still_step
        refine wpStill_nil ?_
        change wpList _ _ _ _ _ w2.drew
        obtain ⟨y0, hy0⟩ : ∃ y, y = gb sbox a0.toNat := ⟨_, rfl⟩
        obtain ⟨y1, hy1⟩ : ∃ y, y = gb sbox a1.toNat := ⟨_, rfl⟩
        obtain ⟨y2, hy2⟩ : ∃ y, y = gb sbox a2.toNat := ⟨_, rfl⟩
        obtain ⟨y3, hy3⟩ : ∃ y, y = gb sbox a3.toNat := ⟨_, rfl⟩
        rw [← hy0, ← hy1, ← hy2, ← hy3]
        have HD : Aside0 (wordD W n = [y0, y1, y2, y3]) := ⟨by
          have h1 := HN.out
          obtain ⟨e0, e1, e2, e3⟩ := HAA.out
          rw [wordD_4 W n p (by omega) (by have := HWL.out; omega) HC.out, ← e0, ← e1, ← e2, ← e3, hy0, hy1, hy2, hy3]⟩
        have HPN : Aside0 (pow ((n + 1 - 1) / 8) = P) := ⟨by rw [Nat.add_sub_cancel, HP.out]; congr 1; have := HC.out; omega⟩
        clear hy0 hy1 hy2 hy3
        clear x0 x1 x2 x3 k0 k1 k2 k3 bk0 bk1 bk2 bk3 nk0 nk1 nk2 nk3 wk0 wk1 wk2 wk3
        go_wp2
        have HXI : Aside0 (Row.Own (w2.alloc (.cells #[.int .u8 (y0.toNat : Int), .int .u8 (y1.toNat : Int), .int .u8 (y2.toNat : Int), .int .u8 (y3.toNat : Int)] 5)).drew Bx 5 (.slice (some ⟨w2.heap.size, 0, none⟩) 4 4) (b8s [y0, y1, y2, y3])) := ⟨(Row.Own.build w2 (b8s [y0, y1, y2, y3]) 5 (by have h1 := HB8s.out; omega) (by show 4 ≤ maxLen; decide)).drew⟩
        have HOI : Aside0 (Row.Own (w2.alloc (.cells #[.int .u8 (y0.toNat : Int), .int .u8 (y1.toNat : Int), .int .u8 (y2.toNat : Int), .int .u8 (y3.toNat : Int)] 5)).drew w.heap.size 5 (.slice (some ⟨g5, 0, none⟩) q c5) (b8s (W.take q))) := ⟨(HO2.out.alloc _).drew⟩
        have HBI : Aside0 (Below w.heap.size w (w2.alloc (.cells #[.int .u8 (y0.toNat : Int), .int .u8 (y1.toNat : Int), .int .u8 (y2.toNat : Int), .int .u8 (y3.toNat : Int)] 5)).drew) := ⟨(HB2.out.alloc HB2.out.size _).drew⟩
        obtain ⟨gx, hgx⟩ : ∃ g, g = w2.heap.size := ⟨_, rfl⟩
        obtain ⟨wI, hwI⟩ : ∃ x, x = (w2.alloc (.cells #[.int .u8 (y0.toNat : Int), .int .u8 (y1.toNat : Int), .int .u8 (y2.toNat : Int), .int .u8 (y3.toNat : Int)] 5)).drew := ⟨_, rfl⟩
        rw [← hwI, ← hgx] at HXI
        rw [← hwI] at HOI HBI
        rw [← hwI, ← hgx]
        clear hwI hgx HO2 HB2 HT2 H8
        have HYX : Aside0 (wI.heap.size = wI.heap.size ∧ Bx ≤ gx ∧ g5 < gx) := ⟨rfl, by have h1 := HXI.out.lt gx rfl; exact h1.1, by have h1 := HXI.out.lt gx rfl; have h2 := HG5.out; omega⟩
        obtain ⟨r, hr⟩ : ∃ r, r + 32 = q := ⟨q - 32, by have := HN.out; omega⟩
        have HRr := Aside0.mk hr
        obtain ⟨L, hL⟩ : ∃ L, L = (List.range 4).map (nextF W n) := ⟨_, rfl⟩
        have HL : Aside0 (L.length = 4 ∧ ∀ k, k < 4 → L[k]? = some (nextF W n k)) := ⟨by rw [hL]; simp, fun k hk => by rw [hL]; simp [hk]⟩
        have HLe := Aside0.mk hL
        have HOI0 : Aside0 (Row.Own wI w.heap.size 5 (.slice (some ⟨g5, 0, none⟩) q c5) (b8s (W.take q ++ L.take 0))) := ⟨by rw [List.take_zero, List.append_nil]; exact HOI.out⟩
        clear hr hL HOI
        go_loopg [5, 9] 4 (fun gg s5 s9 wr => ∃ k : Nat, k + gg = 4 ∧ s9 = .int .i64 k ∧ Row.Own wr w.heap.size 5 s5 (b8s (W.take q ++ L.take k)) ∧ Row.Own wr Bx 5 (.slice (some ⟨gx, 0, none⟩) 4 4) (b8s [y0, y1, y2, y3]) ∧ s5.ownBlock ≠ some gx ∧ Below w.heap.size w wr)
        case atStart => exact ⟨0, by omega, rfl, HOI0.out, HXI.out, by have := HYX.out; simp [Value.ownBlock]; omega, HBI.out⟩
        case round =>
          obtain ⟨k, hk, rfl, ho, hx, hne, hb⟩ := hrel
          clear HOI0 HXI HBI
          have HO3 := Aside0.mk ho
          have HX3 := Aside0.mk hx
          have HB3 := Aside0.mk hb
          have HNE := Aside0.mk hne
          clear ho hx hb hne
          cases gk with
          | zero =>
            have hk4 : k = 4 := by omega
            subst hk4
            have HE2 : Aside0 (W.take q ++ L.take 4 = (ex kb (n + 1)).take (4 * (n + 1))) := ⟨by
              have h1 := HN.out
              have h2 := HWL.out
              rw [show L.take 4 = L from List.take_of_length_le (by rw [HL.out.1]; exact Nat.le_refl _), ex_next kb HKL.out n h1.1 (by omega), ← h2.2.2, ← h1.2.2.1, HLe.out]⟩
            rw [HE2.out] at HO3
            clear hk
            go_wp2
            go_roundg gk0
            case measure => omega
            case rel => exact ⟨n + 1, by have := HN.out; omega, by have := HN.out; omega, rfl, by rw [HPN.out], HO3.out, HB3.out⟩
          | succ gk1 =>
            have hk4 : (k : Int) < 4 := by omega
            have hkn : k < 4 := by omega
            have h0k : (0 : Int) ≤ (k : Int) := by omega
            have hlk : (W.take q ++ L.take k).length = q + k := by rw [List.length_append, HWL.out.2.1, List.length_take, HL.out.1]; omega
            have hl3 : (b8s (W.take q ++ L.take k)).length = q + k := by rw [b8s_length, hlk]
            obtain ⟨g6, c6, h6f, _, _⟩ := HO3.out.form hl3 (by have := HRr.out; omega)
            subst h6f
            obtain ⟨m, hm⟩ : ∃ m, m = r + k := ⟨_, rfl⟩
            obtain ⟨Lk, hLk⟩ : ∃ l, l = q + k := ⟨_, rfl⟩
            rw [← hLk] at HO3 HNE hl3 ⊢
            have HL3 := Aside0.mk hl3
            have d32 : (q : Int) - 32 = (r : Int) := by have := HRr.out; omega
            have eq' : IntKind.i64.wrap (q : Int) = (q : Int) := wrapi_of_bounds (by omega) (by have := HN.out; omega)
            have er : IntKind.i64.wrap (r : Int) = (r : Int) := wrapi_of_bounds (by omega) (by have := HN.out; omega)
            have sm : (r : Int) + (k : Int) = (m : Int) := by omega
            have em : IntKind.i64.wrap (m : Int) = (m : Int) := wrapi_of_bounds (by omega) (by have := HN.out; have := HRr.out; omega)
            have lm : (m : Int) < (Lk : Int) := by have := HRr.out; omega
            have nm : (0 : Int) ≤ (m : Int) := by omega
            have hgm : gb (W.take q ++ L.take k) m = gb W m := by
              have hmq : m < q := by have := HRr.out; omega
              simp only [gb, List.getD_eq_getElem?_getD]
              rw [List.getElem?_append_left (by rw [HWL.out.2.1]; exact hmq), List.getElem?_take, if_pos hmq]
            have cm := HO3.out.cell m _ (b8s_get _ m (by rw [hlk]; have := HRr.out; omega))
            rw [hgm] at cm
            have cxx := HX3.out.cell k _ (b8s_get [y0, y1, y2, y3] k hkn)
            have HNX : Aside0 (nextF W n k = gb W m ^^^ gb [y0, y1, y2, y3] k) := ⟨by
              have h1 := HN.out
              have h2 := HRr.out
              rw [nextF, HD.out, show (n - 8) * 4 + k = m by omega]⟩
            have HK := Aside0.mk (And.intro hk hkn)
            have HS3 : Aside0 (w.heap.size ≤ wr.heap.size) := ⟨HB3.out.size⟩
            clear hm hLk hlk hl3 hgm hk hkn
            go_wp2
            refine wp_region_early 14 (.slice (some ⟨g6, 0, none⟩) Lk c6) (by kernel_rfl) (by kernel_rfl) (fun _ _ _ h => h) (.inl ⟨rfl, fun _ => rfl⟩) ?_
            simp only [List.take_succ_cons, List.take_zero, List.drop_succ_cons, List.drop_zero, Act.put, List.setIfInBounds_toArray, List.set_cons_zero, List.set_cons_succ, Nat.reduceSub]
            repeat still_step
            refine wpStill_nil ?_
            change wpList _ _ _ _ _ wr.drew
            rw [u8x]
            obtain ⟨z, hz⟩ : ∃ z, z = gb W m ^^^ gb [y0, y1, y2, y3] k := ⟨_, rfl⟩
            rw [← hz]
            rw [← hz] at HNX
            clear hz cm cxx d32 eq' er sm em lm nm
            have HOd : Aside0 (Row.Own wr.drew w.heap.size 5 (.slice (some ⟨g6, 0, none⟩) Lk c6) (b8s (W.take q ++ L.take k))) := ⟨HO3.out.drew⟩
            have HXd : Aside0 (Row.Own wr.drew Bx 5 (.slice (some ⟨gx, 0, none⟩) 4 4) (b8s [y0, y1, y2, y3])) := ⟨HX3.out.drew⟩
            have HSd : Aside0 (w.heap.size ≤ wr.drew.heap.size) := ⟨HS3.out⟩
            have HLQ : Aside0 ((b8s (W.take q ++ L.take k)).length + 1 ≤ 140737488355328) := ⟨by rw [HL3.out]; have h1 := HN.out; have h2 := HK.out; have h3 := HL3.out; rw [b8s_length, List.length_append, HWL.out.2.1, List.length_take, HL.out.1] at h3; omega⟩
            have HGX : Aside0 (gx < wr.drew.heap.size) := ⟨(HXd.out.lt gx rfl).2⟩
            go_wp2_with ((with_reducible refine gate_builtin (b := .append) (xs := #[.tmp 89, .tmp 103]) rfl ?_); at_builtin; refine HOd.out.push8x HSd.out rfl _ _ rfl rfl rfl HLQ.out ?_; intro v5 w5 h5 b5 keep hor; have n1 := Aside0.mk h5; have n2 := Aside0.mk ((HB3.out.trans (Below.refl _ wr).drew).trans b5); have n3 := Aside0.mk (keep _ _ _ _ HXd.out (.inr (fun e => HNE.out e.symm))); have n4 : Aside0 (v5.ownBlock ≠ some gx) := ⟨own_ne hor HNE.out HGX.out⟩; clear HO3 HOd HX3 HXd HB3 HNE h5 b5 keep hor; have HO3 := n1; have HB3 := n2; have HX3 := n3; have HNE := n4; clear n1 n2 n3 n4)
            go_roundg gk1
            case measure => omega
            case rel =>
              refine ⟨k + 1, by have := HK.out; omega, rfl, ?_, HX3.out, HNE.out, HB3.out⟩
              have h3 := HO3.out
              have e : L.take (k + 1) = L.take k ++ [nextF W n k] := by
                have hkl : k < L.length := by rw [HL.out.1]; exact HK.out.2
                rw [← List.take_append_getElem hkl]
                congr 2
                have h4 := HL.out.2 k HK.out.2
                rw [List.getElem?_eq_getElem hkl] at h4
                exact Option.some.inj h4
              rw [e, HNX.out, ← List.append_assoc, b8s, List.map_append]
              exact h3
      ·
        have t0 : ((n : Int) % 8 == 0) = false := by rw [beq_eq_false_iff_ne]; omega
        have t4 : ((n : Int) % 8 == 4) = false := by rw [beq_eq_false_iff_ne]; omega
        have HC := Aside0.mk hc
        clear hc
        go_wp2_with ((with_reducible refine gate_builtin (b := .append) (xs := #[.tmp 16, .tmp 23]) rfl ?_); at_builtin; refine HE.out.append8 HEs.out rfl _ _ rfl rfl ⟨g5, p, none⟩ 4 (c5 - p) (b8s [a0, a1, a2, a3]) rfl rfl HPT.out (b8s_ones [a0, a1, a2, a3]) (by simp) ?_; intro v8 w2 h8 b8 _; have H8 := Aside0.mk h8; have HB8 := Aside0.mk (((Below.refl Bx wr).alloc (Nat.le_of_eq HBx.out.1) _).trans b8); clear h8 b8)
        have HO2 : Aside0 (Row.Own w2 w.heap.size 5 (.slice (some ⟨g5, 0, none⟩) q c5) (b8s (W.take q))) := ⟨HO.out.below HB8.out (Nat.le_of_eq HBx.out.1.symm)⟩
        have HB2 : Aside0 (Below w.heap.size w w2) := ⟨HB.out.trans (HB8.out.mono (by have := HBx.out; omega))⟩
        have h8 : Row.Own w2 Bx 5 v8 (b8s [a0, a1, a2, a3]) := H8.out
        obtain ⟨g8, c8, h8f, hg8, _⟩ := h8.form (n := 4) rfl (by decide)
        subst h8f
        have H8 := Aside0.mk h8
        have HB8s : Aside0 (Bx ≤ w2.heap.size) := ⟨(by have h1 := HB8.out.size; have h2 := HBx.out; omega)⟩
        clear h8 HE HEs HPT HX0 HO HB HB8 q6
        obtain ⟨y0, hy0⟩ : ∃ y, y = a0 := ⟨_, rfl⟩
        obtain ⟨y1, hy1⟩ : ∃ y, y = a1 := ⟨_, rfl⟩
        obtain ⟨y2, hy2⟩ : ∃ y, y = a2 := ⟨_, rfl⟩
        obtain ⟨y3, hy3⟩ : ∃ y, y = a3 := ⟨_, rfl⟩
        have HD : Aside0 (wordD W n = [y0, y1, y2, y3]) := ⟨by
          have h1 := HN.out
          obtain ⟨e0, e1, e2, e3⟩ := HAA.out
          rw [wordD_else W n p (by omega) (by have := HWL.out; omega) HC.out.1 HC.out.2, ← e0, ← e1, ← e2, ← e3, hy0, hy1, hy2, hy3]⟩
        have HPN : Aside0 (pow ((n + 1 - 1) / 8) = P) := ⟨by rw [Nat.add_sub_cancel, HP.out]; congr 1; have := HC.out; omega⟩
        have HXI : Aside0 (Row.Own w2 Bx 5 (.slice (some ⟨g8, 0, none⟩) 4 c8) (b8s [y0, y1, y2, y3])) := ⟨by rw [hy0, hy1, hy2, hy3]; exact H8.out⟩
        obtain ⟨wI, hwI⟩ : ∃ x, x = w2 := ⟨_, rfl⟩
        subst hwI
        clear hy0 hy1 hy2 hy3 H8
        have HYX : Aside0 (wI.heap.size = wI.heap.size ∧ Bx ≤ g8 ∧ g5 < g8) := ⟨rfl, by have h1 := HXI.out.lt g8 rfl; exact h1.1, by have h1 := HXI.out.lt g8 rfl; have h2 := HG5.out; omega⟩
        obtain ⟨r, hr⟩ : ∃ r, r + 32 = q := ⟨q - 32, by have := HN.out; omega⟩
        have HRr := Aside0.mk hr
        obtain ⟨L, hL⟩ : ∃ L, L = (List.range 4).map (nextF W n) := ⟨_, rfl⟩
        have HL : Aside0 (L.length = 4 ∧ ∀ k, k < 4 → L[k]? = some (nextF W n k)) := ⟨by rw [hL]; simp, fun k hk => by rw [hL]; simp [hk]⟩
        have HLe := Aside0.mk hL
        have HO20 : Aside0 (Row.Own wI w.heap.size 5 (.slice (some ⟨g5, 0, none⟩) q c5) (b8s (W.take q ++ L.take 0))) := ⟨by rw [List.take_zero, List.append_nil]; exact HO2.out⟩
        clear hr hL HO2
        go_loopg [5, 9] 4 (fun gg s5 s9 wr => ∃ k : Nat, k + gg = 4 ∧ s9 = .int .i64 k ∧ Row.Own wr w.heap.size 5 s5 (b8s (W.take q ++ L.take k)) ∧ Row.Own wr Bx 5 (.slice (some ⟨g8, 0, none⟩) 4 c8) (b8s [y0, y1, y2, y3]) ∧ s5.ownBlock ≠ some g8 ∧ Below w.heap.size w wr)
        case atStart => exact ⟨0, by omega, rfl, HO20.out, HXI.out, by have := HYX.out; simp [Value.ownBlock]; omega, HB2.out⟩
        case round =>
          obtain ⟨k, hk, rfl, ho, hx, hne, hb⟩ := hrel
          clear HO20 HXI HB2
          have HO3 := Aside0.mk ho
          have HX3 := Aside0.mk hx
          have HB3 := Aside0.mk hb
          have HNE := Aside0.mk hne
          clear ho hx hb hne
          cases gk with
          | zero =>
            have hk4 : k = 4 := by omega
            subst hk4
            have HE2 : Aside0 (W.take q ++ L.take 4 = (ex kb (n + 1)).take (4 * (n + 1))) := ⟨by
              have h1 := HN.out
              have h2 := HWL.out
              rw [show L.take 4 = L from List.take_of_length_le (by rw [HL.out.1]; exact Nat.le_refl _), ex_next kb HKL.out n h1.1 (by omega), ← h2.2.2, ← h1.2.2.1, HLe.out]⟩
            rw [HE2.out] at HO3
            clear hk
            go_wp2
            go_roundg gk0
            case measure => omega
            case rel => exact ⟨n + 1, by have := HN.out; omega, by have := HN.out; omega, rfl, by rw [HPN.out], HO3.out, HB3.out⟩
          | succ gk1 =>
            have hk4 : (k : Int) < 4 := by omega
            have hkn : k < 4 := by omega
            have h0k : (0 : Int) ≤ (k : Int) := by omega
            have hlk : (W.take q ++ L.take k).length = q + k := by rw [List.length_append, HWL.out.2.1, List.length_take, HL.out.1]; omega
            have hl3 : (b8s (W.take q ++ L.take k)).length = q + k := by rw [b8s_length, hlk]
            obtain ⟨g6, c6, h6f, _, _⟩ := HO3.out.form hl3 (by have := HRr.out; omega)
            subst h6f
            obtain ⟨m, hm⟩ : ∃ m, m = r + k := ⟨_, rfl⟩
            obtain ⟨Lk, hLk⟩ : ∃ l, l = q + k := ⟨_, rfl⟩
            rw [← hLk] at HO3 HNE hl3 ⊢
            have HL3 := Aside0.mk hl3
            have d32 : (q : Int) - 32 = (r : Int) := by have := HRr.out; omega
            have eq' : IntKind.i64.wrap (q : Int) = (q : Int) := wrapi_of_bounds (by omega) (by have := HN.out; omega)
            have er : IntKind.i64.wrap (r : Int) = (r : Int) := wrapi_of_bounds (by omega) (by have := HN.out; omega)
            have sm : (r : Int) + (k : Int) = (m : Int) := by omega
            have em : IntKind.i64.wrap (m : Int) = (m : Int) := wrapi_of_bounds (by omega) (by have := HN.out; have := HRr.out; omega)
            have lm : (m : Int) < (Lk : Int) := by have := HRr.out; omega
            have nm : (0 : Int) ≤ (m : Int) := by omega
            have hgm : gb (W.take q ++ L.take k) m = gb W m := by
              have hmq : m < q := by have := HRr.out; omega
              simp only [gb, List.getD_eq_getElem?_getD]
              rw [List.getElem?_append_left (by rw [HWL.out.2.1]; exact hmq), List.getElem?_take, if_pos hmq]
            have cm := HO3.out.cell m _ (b8s_get _ m (by rw [hlk]; have := HRr.out; omega))
            rw [hgm] at cm
            have cxx := HX3.out.cell k _ (b8s_get [y0, y1, y2, y3] k hkn)
            have HNX : Aside0 (nextF W n k = gb W m ^^^ gb [y0, y1, y2, y3] k) := ⟨by
              have h1 := HN.out
              have h2 := HRr.out
              rw [nextF, HD.out, show (n - 8) * 4 + k = m by omega]⟩
            have HK := Aside0.mk (And.intro hk hkn)
            have HS3 : Aside0 (w.heap.size ≤ wr.heap.size) := ⟨HB3.out.size⟩
            clear hm hLk hlk hl3 hgm hk hkn
            go_wp2
            refine wp_region_early 14 (.slice (some ⟨g6, 0, none⟩) Lk c6) (by kernel_rfl) (by kernel_rfl) (fun _ _ _ h => h) (.inl ⟨rfl, fun _ => rfl⟩) ?_
            simp only [List.take_succ_cons, List.take_zero, List.drop_succ_cons, List.drop_zero, Act.put, List.setIfInBounds_toArray, List.set_cons_zero, List.set_cons_succ, Nat.reduceSub]
            repeat still_step
            refine wpStill_nil ?_
            change wpList _ _ _ _ _ wr.drew
            rw [u8x]
            obtain ⟨z, hz⟩ : ∃ z, z = gb W m ^^^ gb [y0, y1, y2, y3] k := ⟨_, rfl⟩
            rw [← hz]
            rw [← hz] at HNX
            clear hz cm cxx d32 eq' er sm em lm nm
            have HOd : Aside0 (Row.Own wr.drew w.heap.size 5 (.slice (some ⟨g6, 0, none⟩) Lk c6) (b8s (W.take q ++ L.take k))) := ⟨HO3.out.drew⟩
            have HXd : Aside0 (Row.Own wr.drew Bx 5 (.slice (some ⟨g8, 0, none⟩) 4 c8) (b8s [y0, y1, y2, y3])) := ⟨HX3.out.drew⟩
            have HSd : Aside0 (w.heap.size ≤ wr.drew.heap.size) := ⟨HS3.out⟩
            have HLQ : Aside0 ((b8s (W.take q ++ L.take k)).length + 1 ≤ 140737488355328) := ⟨by rw [HL3.out]; have h1 := HN.out; have h2 := HK.out; have h3 := HL3.out; rw [b8s_length, List.length_append, HWL.out.2.1, List.length_take, HL.out.1] at h3; omega⟩
            have HGX : Aside0 (g8 < wr.drew.heap.size) := ⟨(HXd.out.lt g8 rfl).2⟩
            go_wp2_with ((with_reducible refine gate_builtin (b := .append) (xs := #[.tmp 89, .tmp 103]) rfl ?_); at_builtin; refine HOd.out.push8x HSd.out rfl _ _ rfl rfl rfl HLQ.out ?_; intro v5 w5 h5 b5 keep hor; have n1 := Aside0.mk h5; have n2 := Aside0.mk ((HB3.out.trans (Below.refl _ wr).drew).trans b5); have n3 := Aside0.mk (keep _ _ _ _ HXd.out (.inr (fun e => HNE.out e.symm))); have n4 : Aside0 (v5.ownBlock ≠ some g8) := ⟨own_ne hor HNE.out HGX.out⟩; clear HO3 HOd HX3 HXd HB3 HNE h5 b5 keep hor; have HO3 := n1; have HB3 := n2; have HX3 := n3; have HNE := n4; clear n1 n2 n3 n4)
            go_roundg gk1
            case measure => omega
            case rel =>
              refine ⟨k + 1, by have := HK.out; omega, rfl, ?_, HX3.out, HNE.out, HB3.out⟩
              have h3 := HO3.out
              have e : L.take (k + 1) = L.take k ++ [nextF W n k] := by
                have hkl : k < L.length := by rw [HL.out.1]; exact HK.out.2
                rw [← List.take_append_getElem hkl]
                congr 2
                have h4 := HL.out.2 k HK.out.2
                rw [List.getElem?_eq_getElem hkl] at h4
                exact Option.some.inj h4
              rw [e, HNX.out, ← List.append_assoc, b8s, List.map_append]
              exact h3
end Go.Proofs.Ytdegeodegjmddaa.Given
