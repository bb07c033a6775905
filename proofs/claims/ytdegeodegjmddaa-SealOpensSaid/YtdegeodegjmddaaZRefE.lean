/- The contract of hamperref09.Encrypts. Conditions: a key of 32 bytes, blocks of 16. -/
import Derived.Test.YtdegeodegjmddaaZRefW
import Derived.Test.YtdegeodegjmddaaZRefQ1
import Derived.Test.YtdegeodegjmddaaZOwnQ
import Derived.Test.YtdegeodegjmddaaZAesQ2
namespace Go.Proofs.Ytdegeodegjmddaa.Given
open Go.RowKit Go.Proofs.YtdegeodegjmddaaW.PrintWords Go.Proofs.YtdegeodegjmddaaW.PrintLast Go.Proofs.YtdegeodegjmddaaW.PrintMore
open Go.Proofs.Ytdegeodegjmddaa.Row Go.Proofs.Ytdegeodegjmddaa.Aes Go.Proofs.Ytdegeodegjmddaa.Row.At
set_option maxRecDepth 100000
set_option linter.unusedVariables false
set_option linter.unusedSimpArgs false
/-- texts, as cells -/
def strs (l : List ByteArray) : List Value := l.map Value.string
theorem mul_2 (b : UInt8) (w : World) : Calls Try.prog 73 #[.int .u8 2, .int .u8 (b.toNat : Int)] w fun e w' => e = .returned (.int .u8 ((times 2 b).toNat : Int)) ∧ w' = w := mul_any 2 b w
theorem mul_3 (b : UInt8) (w : World) : Calls Try.prog 73 #[.int .u8 3, .int .u8 (b.toNat : Int)] w fun e w' => e = .returned (.int .u8 ((times 3 b).toNat : Int)) ∧ w' = w := mul_any 3 b w
theorem made16 (W : World) (B : Nat) (hB : B ≤ W.heap.size) : Row.Own (W.alloc (.cells (madeCells #[.int .u8 0] 16) 5 (0, 0))) B 5 (.slice (some ⟨W.heap.size, 0, none⟩) 16 16) (b8s (List.replicate 16 0)) := by
  have e : madeCells #[.int .u8 0] 16 = (b8s (List.replicate 16 0)).toArray := by
    have := toList_madeCells_one (.int .u8 0) 16
    rw [← Array.toArray_toList (xs := madeCells #[.int .u8 0] 16), this]
    rfl
  rw [e]
  exact Row.Own.build W (b8s (List.replicate 16 0)) 5 hB (by decide)
set_option maxHeartbeats 100000000 in
theorem encs_any (key : ByteArray) (hk : key.size = 32) (u : Option Addr) (c : Nat) (bl : List ByteArray) (hb : ∀ s ∈ bl, s.size = 16) (w : World) (hin : In w u bl) :
    Calls Try.prog 62 #[.string key, .slice u bl.length c] w fun e w' => ∃ v', e = .returned v' ∧ Row.Own w' w.heap.size 9 v' (strs (bl.map (encW key))) ∧ Below w.heap.size w w' := by
  have HIN := Aside0.mk hin
  have HK32 := Aside0.mk hk
  have HBL := Aside0.mk hb
  have hbl : (bl.length : Int) ≤ 140737488351232 := by have := hin.many; omega
  have HB0 := Aside0.mk (Below.refl w.heap.size w)
  have hmk : ∀ W : World, (Instr.makeSlice 43 (.int .i64 16) (.int .i64 16)).run Try.prog W = .ok (.slice (some ⟨W.heap.size, 0, none⟩) 16 16) (W.alloc (.cells (madeCells #[.int .u8 0] 16) 5)) := print_make (P := Try.prog) 43 5 .u8 1 Try.underlying43 (by kernel_rfl) (by decide) 16 (by omega)
  obtain ⟨C16, hC16⟩ : ∃ C, C = Obj.cells (madeCells #[.int .u8 0] 16) 5 (0, 0) := ⟨_, rfl⟩
  have HM16 : Aside0 (∀ (W : World) (B : Nat), B ≤ W.heap.size → Row.Own (W.alloc C16) B 5 (.slice (some ⟨W.heap.size, 0, none⟩) 16 16) (b8s (List.replicate 16 0))) := ⟨fun W B hB => by rw [hC16]; exact made16 W B hB⟩
  rw [← hC16] at hmk
  clear hC16
  clear hin hk hb
  go_enter Try.func62, Try.ntmps62
  go_wp2_with (first
    | (go_at_call 71; (with_reducible refine (table_any _).mono ?_); rintro e w1 ⟨gt, ct, rfl, ht, hb⟩; have HT := Aside0.mk ht; have HBT := Aside0.mk hb; clear ht hb)
    | (go_at_call 72; (with_reducible refine (words_any key HK32.out gt ct _ _ HT.out).mono ?_); rintro e w2 ⟨gk, ck, rfl, hwd, hb⟩; have HW := Aside0.mk hwd; have HBW := Aside0.mk hb; clear hwd hb))
  have HT2 : Aside0 (Row.Own w2 w.heap.size 5 (.slice (some ⟨gt, 0, none⟩) 256 ct) (b8s sbox)) := ⟨HT.out.go HBW.out⟩
  have HW2 : Aside0 (Row.Own w2 w.heap.size 5 (.slice (some ⟨gk, 0, none⟩) 240 ck) (b8s (ex key.data.toList 60))) := ⟨HW.out.mono HBT.out.size⟩
  have HB2 : Aside0 (Below w.heap.size w w2) := ⟨HBT.out.trans (HBW.out.mono HBT.out.size)⟩
  have HO0 := Aside0.mk (Row.Own.nil w2 w.heap.size 9)
  obtain ⟨kb, hkb⟩ : ∃ l, l = key.data.toList := ⟨_, rfl⟩
  rw [← hkb] at HW2
  have HKB := Aside0.mk hkb
  have HKL : Aside0 (kb.length = 32) := ⟨by rw [hkb]; exact HK32.out⟩
  have hwl : (ex kb 60).length = 240 := ex_length kb HKL.out 60 (Nat.le_refl _)
  obtain ⟨wk, hwk⟩ : ∃ l, l = ex kb 60 := ⟨_, rfl⟩
  rw [← hwk] at HW2 hwl
  have HWK := Aside0.mk (And.intro hwk hwl)
  clear hkb hwk hwl HT HW HBT HBW HB0
  go_loopg [7, 8] bl.length (fun gg s7 s8 wr => ∃ n : Nat, n + gg = bl.length ∧ s8 = .int .i64 n ∧ Row.Own wr w.heap.size 9 s7 (strs ((bl.take n).map (encW key))) ∧ Row.Own wr w.heap.size 5 (.slice (some ⟨gt, 0, none⟩) 256 ct) (b8s sbox) ∧ Row.Own wr w.heap.size 5 (.slice (some ⟨gk, 0, none⟩) 240 ck) (b8s wk) ∧ s7.ownBlock ≠ some gt ∧ s7.ownBlock ≠ some gk ∧ Below w.heap.size w wr)
  case atStart => exact ⟨0, by omega, rfl, HO0.out, HT2.out, HW2.out, by simp [Value.ownBlock], by simp [Value.ownBlock], HB2.out⟩
  case round =>
    obtain ⟨n, hn, rfl, ho, ht, hw, hne1, hne2, hb⟩ := hrel
    clear HO0 HT2 HW2 HB2
    have HO := Aside0.mk ho
    have HT := Aside0.mk ht
    have HW := Aside0.mk hw
    have HNE := Aside0.mk (And.intro hne1 hne2)
    have HB := Aside0.mk hb
    clear ho ht hw hne1 hne2 hb
    cases gk with
    | zero =>
      have hnn : n = bl.length := by omega
      subst hnn
      have hlt : ¬ ((bl.length : Int) < (bl.length : Int)) := by omega
      rw [List.take_length] at HO
      clear hn
      go_wp2
      go_ret
      exact ⟨u7, rfl, HO.out, HB.out⟩
    | succ gk0 =>
      have hlt : (n : Int) < (bl.length : Int) := by omega
      have h0n : (0 : Int) ≤ (n : Int) := by omega
      obtain ⟨x, hx⟩ : ∃ x, bl[n]? = some x := ⟨bl[n]'(by omega), List.getElem?_eq_getElem _⟩
      obtain ⟨ad, rfl⟩ := HIN.out.ex hx
      have hcell := HIN.out.at_ HB.out rfl hx
      have hxs : x.size = 16 := HBL.out x (List.mem_of_getElem? hx)
      obtain ⟨W0, hW0⟩ : ∃ W, W = wr := ⟨_, rfl⟩
      subst hW0
      obtain ⟨Be, hBe⟩ : ∃ B, B = W0.heap.size := ⟨_, rfl⟩
      have HBe : Aside0 (Be = W0.heap.size ∧ w.heap.size ≤ Be) := ⟨hBe, by rw [hBe]; exact HB.out.size⟩
      have hconv := Lib.run_convert_string_bytes (P := Try.prog) W0 9 43 5 x Try.underlying9 Try.underlying43 Try.underlying5
      have HS0 := Aside0.mk (Row.Own.ofString W0 5 x (B := Be) (Nat.le_of_eq hBe) (by rw [hxs]; decide))
      have HBS0 := Aside0.mk (Lib.bytesWorld_below W0 5 x)
      rw [hxs] at hconv HS0
      obtain ⟨cs, hcs⟩ : ∃ cs, cs = grownCap W0 16 0 5 := ⟨_, rfl⟩
      obtain ⟨W1, hW1⟩ : ∃ W, W = Lib.bytesWorld W0 5 x := ⟨_, rfl⟩
      obtain ⟨gs, hgs⟩ : ∃ g, g = W0.heap.size := ⟨_, rfl⟩
      rw [← hW1, ← hcs, ← hgs] at hconv HS0
      rw [← hW1] at HBS0
      rw [← hBe] at HBS0
      obtain ⟨s0, hs0⟩ : ∃ l, l = x.data.toList := ⟨_, rfl⟩
      rw [← hs0] at HS0
      have HSL : Aside0 (s0.length = 16) := ⟨by rw [hs0]; exact hxs⟩
      have HX := Aside0.mk (And.intro hx (And.intro hs0 (And.intro hn hgs)))
      have HGS : Aside0 (gs = Be) := ⟨by rw [hgs, hBe]⟩
      clear hx hxs hcs hW1 hs0 hn hgs hBe
      go_wp2
      clear hconv hcell
      go_loopg [10] 16 (fun gg s10 wr => ∃ (i : Nat) (l : List UInt8), i + gg = 16 ∧ s10 = .int .i64 i ∧ Row.Own wr Be 5 (.slice (some ⟨gs, 0, none⟩) 16 cs) (b8s l) ∧ Part (keyF wk s0 0) s0 i l ∧ Below Be W0 wr)
      case atStart => exact ⟨0, s0, by omega, rfl, HS0.out, Part.start _ HSL.out, HBS0.out⟩
      case round =>
        obtain ⟨i, l, hi, rfl, hs, hp, hb⟩ := hrel
        clear HS0 HBS0
        have HS := Aside0.mk hs
        have HP := Aside0.mk hp
        have HB1 := Aside0.mk hb
        clear hs hp hb
        cases gk with
        | zero =>
          --@BEGIN M1exit
          as_aux_lemma =>
            have hi16 : i = 16 := by omega
            subst hi16
            have hl : l = steps (encRound (cipher kb)) s0 1 := by
              rw [HP.out.done, HWK.out.1, keyF_all kb s0 HKL.out 0 (by decide)]
              rfl
            rw [hl] at HS
            clear hi hl HP
            go_wp2
            go_loopg [11] 14 (fun gg s11 wr => ∃ r : Nat, 1 ≤ r ∧ r + gg = 15 ∧ s11 = .int .i64 r ∧ Row.Own wr Be 5 (.slice (some ⟨gs, 0, none⟩) 16 cs) (b8s (steps (encRound (cipher kb)) s0 r)) ∧ Below Be W0 wr)
            case atStart => exact ⟨1, by omega, by omega, rfl, HS.out, HB1.out⟩
            case round =>
              obtain ⟨rd, hr1, hr, rfl, hs, hb⟩ := hrel
              clear HS HB1
              have HS := Aside0.mk hs
              have HB1 := Aside0.mk hb
              clear hs hb
              have hstl : (steps (encRound (cipher kb)) s0 rd).length = 16 := steps_length _ (encRound_length _) s0 HSL.out rd
              obtain ⟨st, hst⟩ : ∃ l, l = steps (encRound (cipher kb)) s0 rd := ⟨_, rfl⟩
              rw [← hst] at HS hstl
              have HST := Aside0.mk (And.intro hst hstl)
              clear hst hstl
              cases gk with
              | zero =>
                --@BEGIN M2exit
                as_aux_lemma =>
                  have hr15 : rd = 15 := by omega
                  subst hr15
                  have hconv : (convert 43 9 (.slice (some ⟨gs, 0, none⟩) 16 cs)).run Try.prog wr = .ok (.string (encW key x)) wr := by
                    have := run_convert_bytes_back (P := Try.prog) wr 43 9 5 ⟨gs, 0, none⟩ cs st Try.underlying43 Try.underlying5 Try.underlying9 (fun j hj => by
                      rw [Addr.add_mid, Nat.zero_add, HS.out.cell j _ (b8s_get _ j hj)]
                      simp [gb, List.getD_eq_getElem?_getD, hj])
                    rw [HST.out.2] at this
                    have e : encW key x = ⟨st.toArray⟩ := by rw [encW, HST.out.1, HX.out.2.1, HKB.out]; rfl
                    rw [e]
                    exact this
                  have HBE : Aside0 (Below w.heap.size w wr) := ⟨HB.out.trans (HB1.out.mono HBe.out.2)⟩
                  have HOE : Aside0 (Row.Own wr w.heap.size 9 u7 (strs ((bl.take n).map (encW key)))) := ⟨HO.out.below HB1.out (Nat.le_of_eq HBe.out.1.symm)⟩
                  have HTE : Aside0 (Row.Own wr w.heap.size 5 (.slice (some ⟨gt, 0, none⟩) 256 ct) (b8s sbox)) := ⟨HT.out.below HB1.out (Nat.le_of_eq HBe.out.1.symm)⟩
                  have HWE : Aside0 (Row.Own wr w.heap.size 5 (.slice (some ⟨gk, 0, none⟩) 240 ck) (b8s wk)) := ⟨HW.out.below HB1.out (Nat.le_of_eq HBe.out.1.symm)⟩
                  have HBS : Aside0 (w.heap.size ≤ wr.heap.size) := ⟨HBE.out.size⟩
                  have HLE : Aside0 ((strs ((bl.take n).map (encW key))).length + 1 ≤ 8796093022208) := ⟨by
                    rw [strs, List.length_map, List.length_map, List.length_take]
                    have := HIN.out.many
                    omega⟩
                  clear hr hr1 HB HB1 HO HT HW
                  go_wp2_with ((with_reducible refine gate_builtin (b := .append) (xs := #[.tmp 185, .tmp 188]) rfl ?_); at_builtin; refine HOE.out.pushSx HBS.out rfl _ _ rfl rfl rfl HLE.out ?_; intro v7 w9 h7 b7 keep hor; have H7 := Aside0.mk h7; have HB7 := Aside0.mk (HBE.out.trans b7); have HT7 := Aside0.mk (keep _ _ _ _ HTE.out (.inr (fun e => HNE.out.1 e.symm))); have HW7 := Aside0.mk (keep _ _ _ _ HWE.out (.inr (fun e => HNE.out.2 e.symm))); have HN7 : Aside0 (v7.ownBlock ≠ some gt ∧ v7.ownBlock ≠ some gk) := ⟨own_ne hor HNE.out.1 (HTE.out.lt gt rfl).2, own_ne hor HNE.out.2 (HWE.out.lt gk rfl).2⟩; clear h7 b7 keep hor)
                  go_roundg gk0
                  case measure => omega
                  case rel =>
                    refine ⟨n + 1, by have := HX.out.2.2.1; omega, rfl, ?_, HT7.out, HW7.out, HN7.out.1, HN7.out.2, HB7.out⟩
                    have h7 := H7.out
                    have e : bl.take (n + 1) = bl.take n ++ [x] := by
                      obtain ⟨hl, hx⟩ := List.getElem?_eq_some_iff.1 HX.out.1
                      rw [← hx, List.take_append_getElem hl]
                    rw [e, strs, List.map_append, List.map_append]
                    exact h7
                  --@END M2exit
              | succ gk1 =>
                have hr14 : (rd : Int) ≤ 14 := by omega
                obtain ⟨W2, hW2⟩ : ∃ W, W = wr := ⟨_, rfl⟩
                subst hW2
                obtain ⟨Bx, hBx⟩ : ∃ B, B = W2.heap.size := ⟨_, rfl⟩
                have HBx : Aside0 (Bx = W2.heap.size ∧ Be ≤ Bx ∧ gs < Bx) := ⟨hBx, by have := HB1.out.size; have := HBe.out; omega, by have := (HS.out.lt gs rfl).2; omega⟩
                have HX0 := Aside0.mk (HM16.out W2 Bx (Nat.le_of_eq hBx))
                have HXB : Aside0 (Below Bx W2 (W2.alloc C16)) := ⟨(Below.refl _ _).alloc (Nat.le_of_eq hBx) _⟩
                have HR := Aside0.mk (And.intro hr1 hr)
                clear hr hr1
                go_wp2
                obtain ⟨gx, hgx⟩ : ∃ g, g = W2.heap.size := ⟨_, rfl⟩
                rw [← hgx] at HX0 ⊢
                obtain ⟨W3, hW3⟩ : ∃ W, W = W2.alloc C16 := ⟨_, rfl⟩
                rw [← hW3] at HX0 HXB
                have HGX : Aside0 (gx = Bx) := ⟨by rw [hgx, hBx]⟩
                rw [← hW3]
                clear hgx hW3 hBx
                go_loopg [13] 16 (fun gg s13 wr => ∃ (i : Nat) (l : List UInt8), i + gg = 16 ∧ s13 = .int .i64 i ∧ Row.Own wr Bx 5 (.slice (some ⟨gx, 0, none⟩) 16 16) (b8s l) ∧ Part (subRow st) (List.replicate 16 0) i l ∧ Below Bx W2 wr)
                case atStart => exact ⟨0, _, by omega, rfl, HX0.out, Part.start _ (by simp), HXB.out⟩
                case round =>
                  obtain ⟨i, l, hi, rfl, hx, hp, hb⟩ := hrel
                  clear HX0 HXB
                  have HX1 := Aside0.mk hx
                  have HP := Aside0.mk hp
                  have HB4 := Aside0.mk hb
                  clear hx hp hb
                  cases gk with
                  | zero =>
                    have hi16 : i = 16 := by omega
                    subst hi16
                    have hl : l = rowL (swapL st sbox) 1 := by rw [HP.out.done, subRow_all]
                    obtain ⟨x1, hx1⟩ : ∃ x, x = rowL (swapL st sbox) 1 := ⟨_, rfl⟩
                    rw [hl, ← hx1] at HX1
                    have HX1E := Aside0.mk hx1
                    have HX1L : Aside0 (x1.length = 16) := ⟨by rw [hx1, rowL, mk16_length]⟩
                    clear hi HP hl hx1
                    by_cases h14 : rd < 14
                    · have h14i : (rd : Int) < 14 := by omega
                      have HR14 := Aside0.mk h14
                      clear h14
                      go_wp2
                      have HP0 : Aside0 (Part (colF x1 encB) x1 (4 * 0) x1) := ⟨Part.start _ HX1L.out⟩
                      go_loopg [16] 4 (fun gg s16 wr => ∃ (c : Nat) (l : List UInt8), c + gg = 4 ∧ s16 = .int .i64 c ∧ Row.Own wr Bx 5 (.slice (some ⟨gx, 0, none⟩) 16 16) (b8s l) ∧ Part (colF x1 encB) x1 (4 * c) l ∧ Below Bx W2 wr)
                      case atStart => exact ⟨0, x1, by omega, rfl, HX1.out, HP0.out, HB4.out⟩
                      case round =>
                        obtain ⟨cc, l, hc, rfl, hx, hp, hb⟩ := hrel
                        clear HX1 HB4 HP0
                        have HX1 := Aside0.mk hx
                        have HP := Aside0.mk hp
                        have HB4 := Aside0.mk hb
                        clear hx hp hb
                        cases gk with
                        | zero =>
                          have hc4 : cc = 4 := by omega
                          subst hc4
                          have hl : l = colL x1 encB := by rw [show 4 * 4 = 16 from rfl] at HP; rw [HP.out.done, colL]
                          obtain ⟨x2, hx2⟩ : ∃ x, x = colL x1 encB := ⟨_, rfl⟩
                          rw [hl, ← hx2] at HX1
                          have HX2E : Aside0 (encRound (cipher kb) st rd = withL x2 (rkey (cipher kb) rd)) := ⟨by rw [enc_mid kb st HKL.out rd HR.out.1 HR14.out, hx2, HX1E.out]⟩
                          have HX2L : Aside0 (x2.length = 16) := ⟨by rw [hx2, colL, mk16_length]⟩
                          obtain ⟨W4, hW4⟩ : ∃ W, W = wr := ⟨_, rfl⟩
                          subst hW4
                          clear hc HP hl hx2
                          go_wp2
                          --@BEGIN TA
                          as_aux_lemma =>
                            have HX2 : Aside0 (Row.Own W4 Bx 5 (.slice (some ⟨gx, 0, none⟩) 16 16) (b8s x2)) := ⟨HX1.out⟩
                            have HS4 : Aside0 (Row.Own W4 Be 5 (.slice (some ⟨gs, 0, none⟩) 16 cs) (b8s st)) := ⟨HS.out.below HB4.out (Nat.le_of_eq HBx.out.1.symm)⟩
                            have HB5 : Aside0 (Below Be W0 W4) := ⟨HB1.out.trans (HB4.out.mono HBx.out.2.1)⟩
                            clear HX1 HB4
                            go_loopg [21] 16 (fun gg s21 wr => ∃ (i : Nat) (l : List UInt8), i + gg = 16 ∧ s21 = .int .i64 i ∧ Row.Own wr Be 5 (.slice (some ⟨gs, 0, none⟩) 16 cs) (b8s l) ∧ Part (keyF wk x2 rd) st i l ∧ Row.Own wr Bx 5 (.slice (some ⟨gx, 0, none⟩) 16 16) (b8s x2) ∧ Below Be W0 wr)
                            case atStart => exact ⟨0, st, by omega, rfl, HS4.out, Part.start _ HST.out.2, HX2.out, HB5.out⟩
                            case round =>
                              obtain ⟨i, l, hi, rfl, hs, hp, hx, hb⟩ := hrel
                              clear HS4 HX2 HB5
                              have HS5 := Aside0.mk hs
                              have HP5 := Aside0.mk hp
                              have HX5 := Aside0.mk hx
                              have HB5 := Aside0.mk hb
                              clear hs hp hx hb
                              cases gk with
                              | zero =>
                                have hi16 : i = 16 := by omega
                                subst hi16
                                have HL5 : Aside0 (l = steps (encRound (cipher kb)) s0 (rd + 1)) := ⟨by
                                  have h1 := HR.out
                                  rw [HP5.out.done, HWK.out.1, keyF_all kb x2 HKL.out rd (by omega), steps, ← HST.out.1, HX2E.out]⟩
                                rw [HL5.out] at HS5
                                clear hi
                                go_wp2
                                go_roundg gk1
                                case measure => omega
                                case rel => exact ⟨rd + 1, by omega, by have := HR.out; omega, rfl, HS5.out, HB5.out⟩
                              | succ gk4 =>
                                have hi16 : (i : Int) < 16 := by omega
                                have hin : i < 16 := by omega
                                have HI := Aside0.mk (And.intro hi hin)
                                obtain ⟨p, hp⟩ : ∃ p, p = 16 * rd := ⟨_, rfl⟩
                                obtain ⟨m, hm⟩ : ∃ m, m = p + i := ⟨_, rfl⟩
                                have hrd : rd ≤ 14 := by have := HR.out; omega
                                have d1 : 16 * (rd : Int) = (p : Int) := by omega
                                have d2 : IntKind.i64.wrap (p : Int) = (p : Int) := wrapi_of_bounds (by omega) (by omega)
                                have d3 : (p : Int) + (i : Int) = (m : Int) := by omega
                                have d4 : IntKind.i64.wrap (m : Int) = (m : Int) := wrapi_of_bounds (by omega) (by omega)
                                have d5 : (m : Int) < 240 := by omega
                                have d6 : (0 : Int) ≤ (m : Int) := by omega
                                have h0i : (0 : Int) ≤ (i : Int) := by omega
                                have HWw : Aside0 (Row.Own wr w.heap.size 5 (.slice (some ⟨gk, 0, none⟩) 240 ck) (b8s wk)) := ⟨HW.out.below HB5.out (Nat.le_of_eq HBe.out.1.symm)⟩
                                have k1 := HX5.out.cell i _ (b8s_get x2 i (by rw [HX2L.out]; exact hin))
                                have k2 := HWw.out.cell m _ (b8s_get wk m (by rw [HWK.out.2]; omega))
                                have k3 := HS5.out.cell i _ (b8s_get l i (by rw [HP5.out.len]; exact hin))
                                have f3 := HS5.out.frozen i (by rw [b8s_length, HP5.out.len]; exact hin)
                                have HZE : Aside0 (gb x2 i ^^^ gb wk m = keyF wk x2 rd i) := ⟨by rw [keyF, hm, hp]⟩
                                clear hi hin hp hm hrd
                                go_wp2
                                refine wp_region_still_tail 14 (by kernel_rfl) (by kernel_rfl) ?_
                                simp only [List.take_succ_cons, List.take_zero, List.drop_succ_cons, List.drop_zero]
                                iterate 14 still_step
                                refine wpStill_nil ?_
                                change wpList _ _ _ _ _ wr.drew
                                rw [u8x]
                                obtain ⟨z, hz⟩ : ∃ z, z = gb x2 i ^^^ gb wk m := ⟨_, rfl⟩
                                rw [← hz]
                                have HZ : Aside0 (z = keyF wk x2 rd i) := ⟨by rw [hz, HZE.out]⟩
                                have k3' : wr.drew.cell? { block := gs, off := i } = some (Value.int IntKind.u8 ↑(gb l i).toNat) := k3
                                have f3' : wr.drew.frozen? { block := gs, off := i } = false := f3
                                clear k1 k2 k3 f3 hz d1 d2 d3 d4 d5 d6 HZE
                                go_wp2
                                go_roundg gk4
                                case measure => omega
                                case rel =>
                                  refine ⟨i + 1, l.set i z, by have := HI.out; omega, rfl, ?_, HP5.out.next HI.out.2 HZ.out, (HX5.out.other _ (by have h1 := HBx.out; have h2 := HGX.out; simp [Value.ownBlock]; omega)).drew, (HB5.out.setCell (by rw [HGS.out]; exact Nat.le_refl _) _).drew⟩
                                  have h2 := HS5.out.set i (by rw [b8s_length, HP5.out.len]; exact HI.out.2) (.int .u8 (z.toNat : Int))
                                  rw [b8s_set] at h2
                                  exact h2.drew
                            --@END TA
                        | succ gk3 =>
                          --@BEGIN COL
                          as_aux_lemma =>
                            have hc4 : (cc : Int) < 4 := by omega
                            obtain ⟨q, hq⟩ : ∃ q, q = 4 * cc := ⟨_, rfl⟩
                            have HC := Aside0.mk (And.intro hc hq)
                            have hq12 : q + 3 < 16 := by omega
                            have q1 : 4 * (cc : Int) = (q : Int) := by omega
                            have q2 : (q : Int) ≤ 12 := by omega
                            have q3 : (0 : Int) ≤ (q : Int) := by omega
                            rw [← hq] at HP
                            obtain ⟨a, ha⟩ : ∃ a, a = gb x1 q := ⟨_, rfl⟩
                            obtain ⟨b, hb⟩ : ∃ a, a = gb x1 (q + 1) := ⟨_, rfl⟩
                            obtain ⟨d, hd⟩ : ∃ a, a = gb x1 (q + 2) := ⟨_, rfl⟩
                            obtain ⟨e, he⟩ : ∃ a, a = gb x1 (q + 3) := ⟨_, rfl⟩
                            have k0 := HX1.out.cell q _ (b8s_get l q (by rw [HP.out.len]; omega))
                            have k1 := HX1.out.cell (q + 1) _ (b8s_get l (q + 1) (by rw [HP.out.len]; omega))
                            have k2 := HX1.out.cell (q + 2) _ (b8s_get l (q + 2) (by rw [HP.out.len]; omega))
                            have k3 := HX1.out.cell (q + 3) _ (b8s_get l (q + 3) (by rw [HP.out.len]; omega))
                            rw [HP.out.later (by omega) (by omega), ← ha] at k0
                            rw [HP.out.later (by omega) (by omega), ← hb] at k1
                            rw [HP.out.later (by omega) (by omega), ← hd] at k2
                            rw [HP.out.later (by omega) (by omega), ← he] at k3
                            have HV : Aside0 (colF x1 encB q = times 2 a ^^^ times 3 b ^^^ d ^^^ e ∧ colF x1 encB (q + 1) = a ^^^ times 2 b ^^^ times 3 d ^^^ e ∧ colF x1 encB (q + 2) = a ^^^ b ^^^ times 2 d ^^^ times 3 e ∧ colF x1 encB (q + 3) = times 3 a ^^^ b ^^^ d ^^^ times 2 e) := ⟨by
                              rw [hq, enc_c0, enc_c1, enc_c2, enc_c3, ← hq, ha, hb, hd, he]
                              exact ⟨rfl, rfl, rfl, rfl⟩⟩
                            have e0 : IntKind.i64.wrap (q : Int) = (q : Int) := wrapi_of_bounds (by omega) (by omega)
                            have e1 : IntKind.i64.wrap ((q : Int) + 1) = (q : Int) + 1 := wrapi_of_bounds (by omega) (by omega)
                            have e2 : IntKind.i64.wrap ((q : Int) + 2) = (q : Int) + 2 := wrapi_of_bounds (by omega) (by omega)
                            have e3 : IntKind.i64.wrap ((q : Int) + 3) = (q : Int) + 3 := wrapi_of_bounds (by omega) (by omega)
                            have t2 : ((q : Int) + 2).toNat = q + 2 := by omega
                            have t3 : ((q : Int) + 3).toNat = q + 3 := by omega
                            have n1 : (0 : Int) ≤ (q : Int) + 1 := by omega
                            have n2 : (0 : Int) ≤ (q : Int) + 2 := by omega
                            have n3 : (0 : Int) ≤ (q : Int) + 3 := by omega
                            have b0 : (q : Int) < 16 := by omega
                            have b1 : (q : Int) + 1 < 16 := by omega
                            have b2 : (q : Int) + 2 < 16 := by omega
                            have b3 : (q : Int) + 3 < 16 := by omega
                            have HQ := Aside0.mk hq12
                            clear hc hq hq12 ha hb hd he
                            go_wp2
                            refine wp_region_still_lit (by kernel_rfl) (by kernel_rfl) ?_
                            repeat still_step
                            refine wpStill_nil ?_
                            change Exit.then _ _ _ _ (World.drew wr)
                            obtain ⟨wA, hwA⟩ : ∃ wA, wA = wr.drew := ⟨_, rfl⟩
                            have HXA : Aside0 (Row.Own wA Bx 5 (.slice (some ⟨gx, 0, none⟩) 16 16) (b8s l)) := ⟨by rw [hwA]; exact HX1.out.drew⟩
                            have HBA : Aside0 (Below Bx W2 wA) := ⟨by rw [hwA]; exact HB4.out.trans (Below.refl _ wr).drew⟩
                            have HLL : Aside0 ((b8s l).length = 16) := ⟨by rw [b8s_length, HP.out.len]⟩
                            rw [← hwA]
                            clear k0 k1 k2 k3 hwA HX1 HB4 e0 e1 e2 e3
                            have k0 := HXA.out.cell q _ (b8s_get l q (by rw [HP.out.len]; have := HQ.out; omega))
                            have k1 := HXA.out.cell (q + 1) _ (b8s_get l (q + 1) (by rw [HP.out.len]; have := HQ.out; omega))
                            have k2 := HXA.out.cell (q + 2) _ (b8s_get l (q + 2) (by rw [HP.out.len]; have := HQ.out; omega))
                            have k3 := HXA.out.cell (q + 3) _ (b8s_get l (q + 3) (by rw [HP.out.len]; have := HQ.out; omega))
                            have f0 := HXA.out.frozen q (by rw [HLL.out]; have := HQ.out; omega)
                            have f1 := HXA.out.frozen (q + 1) (by rw [HLL.out]; have := HQ.out; omega)
                            have f2 := HXA.out.frozen (q + 2) (by rw [HLL.out]; have := HQ.out; omega)
                            have f3 := HXA.out.frozen (q + 3) (by rw [HLL.out]; have := HQ.out; omega)
                            go_wp2_with (go_at_call 73; (first | (with_reducible refine (mul_2 _ _).mono ?_) | (with_reducible refine (mul_3 _ _).mono ?_)); rintro ee w' ⟨rfl, rfl⟩)
                            go_roundg gk3
                            case measure => omega
                            case rel =>
                              simp only [u8x]
                              have hq := HQ.out
                              have hll := HLL.out
                              rw [b8s_length] at hll
                              refine ⟨cc + 1, (((l.set q (times 2 a ^^^ times 3 b ^^^ d ^^^ e)).set (q + 1) (a ^^^ times 2 b ^^^ times 3 d ^^^ e)).set (q + 2) (a ^^^ b ^^^ times 2 d ^^^ times 3 e)).set (q + 3) (times 3 a ^^^ b ^^^ d ^^^ times 2 e), by have := HC.out; omega, rfl, ?_, ?_, ?_⟩
                              · have h0 := HXA.out.set q (by rw [b8s_length]; omega) (.int .u8 ((times 2 a ^^^ times 3 b ^^^ d ^^^ e).toNat : Int))
                                rw [b8s_set] at h0
                                have h1 := h0.set (q + 1) (by rw [b8s_length]; simp only [List.length_set]; omega) (.int .u8 ((a ^^^ times 2 b ^^^ times 3 d ^^^ e).toNat : Int))
                                rw [b8s_set] at h1
                                have h2 := h1.set (q + 2) (by rw [b8s_length]; simp only [List.length_set]; omega) (.int .u8 ((a ^^^ b ^^^ times 2 d ^^^ times 3 e).toNat : Int))
                                rw [b8s_set] at h2
                                have h3 := h2.set (q + 3) (by rw [b8s_length]; simp only [List.length_set]; omega) (.int .u8 ((times 3 a ^^^ b ^^^ d ^^^ times 2 e).toNat : Int))
                                rw [b8s_set] at h3
                                exact h3
                              · have h4 : 4 * (cc + 1) = q + 3 + 1 := by have := HC.out.2; omega
                                rw [h4]
                                obtain ⟨v0, v1, v2, v3⟩ := HV.out
                                exact (((HP.out.next (by omega) v0.symm).next (by omega) v1.symm).next (by omega) v2.symm).next (by omega) v3.symm
                              · have hg : Bx ≤ gx := by rw [HGX.out]; exact Nat.le_refl _
                                exact (((HBA.out.setCell hg _).setCell hg _).setCell hg _).setCell hg _
                            --@END COL
                    · have hrd : rd = 14 := by have := HR.out; omega
                      have h14i : ¬ ((rd : Int) < 14) := by omega
                      obtain ⟨x2, hx2⟩ : ∃ x, x = x1 := ⟨_, rfl⟩
                      have HX2E : Aside0 (encRound (cipher kb) st rd = withL x2 (rkey (cipher kb) rd)) := ⟨by rw [hrd, enc_last kb st HKL.out, hx2, HX1E.out]⟩
                      have HX2L : Aside0 (x2.length = 16) := ⟨by rw [hx2]; exact HX1L.out⟩
                      rw [← hx2] at HX1
                      obtain ⟨W4, hW4⟩ : ∃ W, W = wr := ⟨_, rfl⟩
                      subst hW4
                      clear hx2 h14 hrd
                      go_wp2
                      --@BEGIN TB
                      as_aux_lemma =>
                        have HX2 : Aside0 (Row.Own W4 Bx 5 (.slice (some ⟨gx, 0, none⟩) 16 16) (b8s x2)) := ⟨HX1.out⟩
                        have HS4 : Aside0 (Row.Own W4 Be 5 (.slice (some ⟨gs, 0, none⟩) 16 cs) (b8s st)) := ⟨HS.out.below HB4.out (Nat.le_of_eq HBx.out.1.symm)⟩
                        have HB5 : Aside0 (Below Be W0 W4) := ⟨HB1.out.trans (HB4.out.mono HBx.out.2.1)⟩
                        clear HX1 HB4
                        go_loopg [21] 16 (fun gg s21 wr => ∃ (i : Nat) (l : List UInt8), i + gg = 16 ∧ s21 = .int .i64 i ∧ Row.Own wr Be 5 (.slice (some ⟨gs, 0, none⟩) 16 cs) (b8s l) ∧ Part (keyF wk x2 rd) st i l ∧ Row.Own wr Bx 5 (.slice (some ⟨gx, 0, none⟩) 16 16) (b8s x2) ∧ Below Be W0 wr)
                        case atStart => exact ⟨0, st, by omega, rfl, HS4.out, Part.start _ HST.out.2, HX2.out, HB5.out⟩
                        case round =>
                          obtain ⟨i, l, hi, rfl, hs, hp, hx, hb⟩ := hrel
                          clear HS4 HX2 HB5
                          have HS5 := Aside0.mk hs
                          have HP5 := Aside0.mk hp
                          have HX5 := Aside0.mk hx
                          have HB5 := Aside0.mk hb
                          clear hs hp hx hb
                          cases gk with
                          | zero =>
                            have hi16 : i = 16 := by omega
                            subst hi16
                            have HL5 : Aside0 (l = steps (encRound (cipher kb)) s0 (rd + 1)) := ⟨by
                              have h1 := HR.out
                              rw [HP5.out.done, HWK.out.1, keyF_all kb x2 HKL.out rd (by omega), steps, ← HST.out.1, HX2E.out]⟩
                            rw [HL5.out] at HS5
                            clear hi
                            go_wp2
                            go_roundg gk1
                            case measure => omega
                            case rel => exact ⟨rd + 1, by omega, by have := HR.out; omega, rfl, HS5.out, HB5.out⟩
                          | succ gk4 =>
                            have hi16 : (i : Int) < 16 := by omega
                            have hin : i < 16 := by omega
                            have HI := Aside0.mk (And.intro hi hin)
                            obtain ⟨p, hp⟩ : ∃ p, p = 16 * rd := ⟨_, rfl⟩
                            obtain ⟨m, hm⟩ : ∃ m, m = p + i := ⟨_, rfl⟩
                            have hrd : rd ≤ 14 := by have := HR.out; omega
                            have d1 : 16 * (rd : Int) = (p : Int) := by omega
                            have d2 : IntKind.i64.wrap (p : Int) = (p : Int) := wrapi_of_bounds (by omega) (by omega)
                            have d3 : (p : Int) + (i : Int) = (m : Int) := by omega
                            have d4 : IntKind.i64.wrap (m : Int) = (m : Int) := wrapi_of_bounds (by omega) (by omega)
                            have d5 : (m : Int) < 240 := by omega
                            have d6 : (0 : Int) ≤ (m : Int) := by omega
                            have h0i : (0 : Int) ≤ (i : Int) := by omega
                            have HWw : Aside0 (Row.Own wr w.heap.size 5 (.slice (some ⟨gk, 0, none⟩) 240 ck) (b8s wk)) := ⟨HW.out.below HB5.out (Nat.le_of_eq HBe.out.1.symm)⟩
                            have k1 := HX5.out.cell i _ (b8s_get x2 i (by rw [HX2L.out]; exact hin))
                            have k2 := HWw.out.cell m _ (b8s_get wk m (by rw [HWK.out.2]; omega))
                            have k3 := HS5.out.cell i _ (b8s_get l i (by rw [HP5.out.len]; exact hin))
                            have f3 := HS5.out.frozen i (by rw [b8s_length, HP5.out.len]; exact hin)
                            have HZE : Aside0 (gb x2 i ^^^ gb wk m = keyF wk x2 rd i) := ⟨by rw [keyF, hm, hp]⟩
                            clear hi hin hp hm hrd
                            go_wp2
                            refine wp_region_still_tail 14 (by kernel_rfl) (by kernel_rfl) ?_
                            simp only [List.take_succ_cons, List.take_zero, List.drop_succ_cons, List.drop_zero]
                            iterate 14 still_step
                            refine wpStill_nil ?_
                            change wpList _ _ _ _ _ wr.drew
                            rw [u8x]
                            obtain ⟨z, hz⟩ : ∃ z, z = gb x2 i ^^^ gb wk m := ⟨_, rfl⟩
                            rw [← hz]
                            have HZ : Aside0 (z = keyF wk x2 rd i) := ⟨by rw [hz, HZE.out]⟩
                            have k3' : wr.drew.cell? { block := gs, off := i } = some (Value.int IntKind.u8 ↑(gb l i).toNat) := k3
                            have f3' : wr.drew.frozen? { block := gs, off := i } = false := f3
                            clear k1 k2 k3 f3 hz d1 d2 d3 d4 d5 d6 HZE
                            go_wp2
                            go_roundg gk4
                            case measure => omega
                            case rel =>
                              refine ⟨i + 1, l.set i z, by have := HI.out; omega, rfl, ?_, HP5.out.next HI.out.2 HZ.out, (HX5.out.other _ (by have h1 := HBx.out; have h2 := HGX.out; simp [Value.ownBlock]; omega)).drew, (HB5.out.setCell (by rw [HGS.out]; exact Nat.le_refl _) _).drew⟩
                              have h2 := HS5.out.set i (by rw [b8s_length, HP5.out.len]; exact HI.out.2) (.int .u8 (z.toNat : Int))
                              rw [b8s_set] at h2
                              exact h2.drew
                        --@END TB
                  | succ gk2 =>
                    --@BEGIN ROW
                    as_aux_lemma =>
                      have hi16 : (i : Int) < 16 := by omega
                      have hin : i < 16 := by omega
                      have HI := Aside0.mk (And.intro hi hin)
                      obtain ⟨r, hr⟩ : ∃ r, r = i % 4 := ⟨_, rfl⟩
                      obtain ⟨cq, hcq⟩ : ∃ r, r = i / 4 := ⟨_, rfl⟩
                      obtain ⟨dq, hdq⟩ : ∃ d, d = (cq + r) % 4 := ⟨_, rfl⟩
                      obtain ⟨m, hm⟩ : ∃ m, m = r + 4 * dq := ⟨_, rfl⟩
                      have d1 : (i : Int) % 4 = (r : Int) := by omega
                      have d2 : (i : Int) / 4 = (cq : Int) := by omega
                      have d3 : ((cq : Int) + (r : Int)) % 4 = (dq : Int) := by omega
                      have d4 : (r : Int) + 4 * (dq : Int) = (m : Int) := by omega
                      have d5 : (r : Int) ≤ 3 := by omega
                      have d6 : (cq : Int) ≤ 3 := by omega
                      have d7 : (dq : Int) ≤ 3 := by omega
                      have d8 : (m : Int) < 16 := by omega
                      have z1 : (0 : Int) ≤ (r : Int) := by omega
                      have z2 : (0 : Int) ≤ (cq : Int) := by omega
                      have z3 : (0 : Int) ≤ (dq : Int) := by omega
                      have z4 : (0 : Int) ≤ (m : Int) := by omega
                      have h0i : (0 : Int) ≤ (i : Int) := by omega
                      have HSw : Aside0 (Row.Own wr Be 5 (.slice (some ⟨gs, 0, none⟩) 16 cs) (b8s st)) := ⟨HS.out.below HB4.out (Nat.le_of_eq HBx.out.1.symm)⟩
                      have HTw : Aside0 (Row.Own wr w.heap.size 5 (.slice (some ⟨gt, 0, none⟩) 256 ct) (b8s sbox)) := ⟨HT.out.below (HB1.out.trans (HB4.out.mono HBx.out.2.1)) (Nat.le_of_eq HBe.out.1.symm)⟩
                      have hmn : m < 16 := by omega
                      have k1 := HSw.out.cell m _ (b8s_get st m (by rw [HST.out.2]; exact hmn))
                      obtain ⟨v, hv⟩ : ∃ v, v = gb st m := ⟨_, rfl⟩
                      rw [← hv] at k1
                      have k2 := HTw.out.cell v.toNat _ (b8s_get sbox v.toNat (by rw [sbox_length]; exact v.toNat_lt))
                      have v1 : (v.toNat : Int) < 256 := by have := v.toNat_lt; omega
                      have v2 : (0 : Int) ≤ (v.toNat : Int) := by omega
                      have k3 := HX1.out.cell i _ (b8s_get l i (by rw [HP.out.len]; exact hin))
                      have f3 := HX1.out.frozen i (by rw [b8s_length, HP.out.len]; exact hin)
                      have HZ : Aside0 (gb sbox v.toNat = subRow st i) := ⟨by rw [subRow, ← hr, ← hcq, ← hdq, ← hm, hv]⟩
                      obtain ⟨z, hz⟩ : ∃ z, z = gb sbox v.toNat := ⟨_, rfl⟩
                      rw [← hz] at k2 HZ
                      clear hi hin hr hcq hdq hm hmn hv hz
                      go_wp2
                      go_roundg gk2
                      case measure => omega
                      case rel =>
                        refine ⟨i + 1, l.set i z, by have := HI.out; omega, rfl, ?_, HP.out.next HI.out.2 HZ.out, HB4.out.setCell (by rw [HGX.out]; exact Nat.le_refl _) _⟩
                        have h2 := HX1.out.set i (by rw [b8s_length, HP.out.len]; exact HI.out.2) (.int .u8 (z.toNat : Int))
                        rw [b8s_set] at h2
                        exact h2
                      --@END ROW
        | succ gk1 =>
          --@BEGIN M1succ
          as_aux_lemma =>
            have hi16 : (i : Int) < 16 := by omega
            have hin : i < 16 := by omega
            have HI := Aside0.mk (And.intro hi hin)
            have c1 := HS.out.cell i _ (b8s_get l i (by rw [HP.out.len]; exact hin))
            have f1 := HS.out.frozen i (by rw [b8s_length, HP.out.len]; exact hin)
            have HWw : Aside0 (Row.Own wr w.heap.size 5 (.slice (some ⟨gk, 0, none⟩) 240 ck) (b8s wk)) := ⟨HW.out.below HB1.out (Nat.le_of_eq HBe.out.1.symm)⟩
            have c2 := HWw.out.cell i _ (b8s_get wk i (by rw [HWK.out.2]; omega))
            have hi240 : (i : Int) < 240 := by omega
            have h0i : (0 : Int) ≤ (i : Int) := by omega
            clear hi hin
            go_wp2
            refine wp_region_still_tail 11 (by kernel_rfl) (by kernel_rfl) ?_
            simp only [List.take_succ_cons, List.take_zero, List.drop_succ_cons, List.drop_zero]
            iterate 11 still_step
            refine wpStill_nil ?_
            change wpList _ _ _ _ _ wr.drew
            rw [u8x]
            obtain ⟨z, hz⟩ : ∃ z, z = gb l i ^^^ gb wk i := ⟨_, rfl⟩
            rw [← hz]
            have HZ : Aside0 (z = keyF wk s0 0 i) := ⟨by rw [hz, HP.out.here HI.out.2, keyF, Nat.mul_zero, Nat.zero_add]⟩
            have c1' : wr.drew.cell? { block := gs, off := i } = some (Value.int IntKind.u8 ↑(gb l i).toNat) := c1
            have f1' : wr.drew.frozen? { block := gs, off := i } = false := f1
            clear c1 f1 c2 hz
            go_wp2
            go_roundg gk1
            case measure => omega
            case rel =>
              refine ⟨i + 1, l.set i z, by have := HI.out; omega, rfl, ?_, HP.out.next HI.out.2 HZ.out, (HB1.out.setCell (by rw [HGS.out]; exact Nat.le_refl _) _).drew⟩
              have h2 := HS.out.set i (by rw [b8s_length, HP.out.len]; exact HI.out.2) (.int .u8 (z.toNat : Int))
              rw [b8s_set] at h2
              exact h2.drew
            --@END M1succ
end Go.Proofs.Ytdegeodegjmddaa.Given
