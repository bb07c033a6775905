/- The contract of hamperref09.Decrypts. Conditions: a key of 32 bytes, blocks of 16. -/
import Derived.Test.YtdegeodegjmddaaZRefE
namespace Go.Proofs.Ytdegeodegjmddaa.Given
open Go.RowKit Go.Proofs.YtdegeodegjmddaaW.PrintWords Go.Proofs.YtdegeodegjmddaaW.PrintLast Go.Proofs.YtdegeodegjmddaaW.PrintMore
open Go.Proofs.Ytdegeodegjmddaa.Row Go.Proofs.Ytdegeodegjmddaa.Aes Go.Proofs.Ytdegeodegjmddaa.Row.At
set_option maxRecDepth 100000
set_option linter.unusedVariables false
set_option linter.unusedSimpArgs false
theorem mul_9 (b : UInt8) (w : World) : Calls Try.prog 73 #[.int .u8 9, .int .u8 (b.toNat : Int)] w fun e w' => e = .returned (.int .u8 ((times 9 b).toNat : Int)) ∧ w' = w := mul_any 9 b w
theorem mul_11 (b : UInt8) (w : World) : Calls Try.prog 73 #[.int .u8 11, .int .u8 (b.toNat : Int)] w fun e w' => e = .returned (.int .u8 ((times 11 b).toNat : Int)) ∧ w' = w := mul_any 11 b w
theorem mul_13 (b : UInt8) (w : World) : Calls Try.prog 73 #[.int .u8 13, .int .u8 (b.toNat : Int)] w fun e w' => e = .returned (.int .u8 ((times 13 b).toNat : Int)) ∧ w' = w := mul_any 13 b w
theorem mul_14 (b : UInt8) (w : World) : Calls Try.prog 73 #[.int .u8 14, .int .u8 (b.toNat : Int)] w fun e w' => e = .returned (.int .u8 ((times 14 b).toNat : Int)) ∧ w' = w := mul_any 14 b w
theorem made256 (W : World) (B : Nat) (hB : B ≤ W.heap.size) : Row.Own (W.alloc (.cells (madeCells #[.int .u8 0] 256) 5 (0, 0))) B 5 (.slice (some ⟨W.heap.size, 0, none⟩) 256 256) (b8s (List.replicate 256 0)) := by
  have e : madeCells #[.int .u8 0] 256 = (b8s (List.replicate 256 0)).toArray := by
    have := toList_madeCells_one (.int .u8 0) 256
    rw [← Array.toArray_toList (xs := madeCells #[.int .u8 0] 256), this, b8s, List.map_replicate]
    rfl
  rw [e]
  have hl : (b8s (List.replicate 256 0)).length = 256 := by rw [b8s_length, List.length_replicate]
  have := Row.Own.build W (b8s (List.replicate 256 0)) 5 hB (by rw [hl]; decide)
  rw [hl] at this
  exact this
set_option maxHeartbeats 100000000 in
theorem decs_any (key : ByteArray) (hk : key.size = 32) (u : Option Addr) (c : Nat) (bl : List ByteArray) (hb : ∀ s ∈ bl, s.size = 16) (w : World) (hin : In w u bl) :
    Calls Try.prog 63 #[.string key, .slice u bl.length c] w fun e w' => ∃ v', e = .returned v' ∧ Row.Own w' w.heap.size 9 v' (strs (bl.map (decW key))) ∧ Below w.heap.size w w' := by
  have HIN := Aside0.mk hin
  have HK32 := Aside0.mk hk
  have HBL := Aside0.mk hb
  have hbl : (bl.length : Int) ≤ 140737488351232 := by have := hin.many; omega
  have hmk : ∀ W : World, (Instr.makeSlice 43 (.int .i64 16) (.int .i64 16)).run Try.prog W = .ok (.slice (some ⟨W.heap.size, 0, none⟩) 16 16) (W.alloc (.cells (madeCells #[.int .u8 0] 16) 5)) := print_make (P := Try.prog) 43 5 .u8 1 Try.underlying43 (by kernel_rfl) (by decide) 16 (by omega)
  obtain ⟨C16, hC16⟩ : ∃ C, C = Obj.cells (madeCells #[.int .u8 0] 16) 5 (0, 0) := ⟨_, rfl⟩
  have HM16 : Aside0 (∀ (W : World) (B : Nat), B ≤ W.heap.size → Row.Own (W.alloc C16) B 5 (.slice (some ⟨W.heap.size, 0, none⟩) 16 16) (b8s (List.replicate 16 0))) := ⟨fun W B hB => by rw [hC16]; exact made16 W B hB⟩
  rw [← hC16] at hmk
  have hmb : ∀ W : World, (Instr.makeSlice 43 (.int .i64 256) (.int .i64 256)).run Try.prog W = .ok (.slice (some ⟨W.heap.size, 0, none⟩) 256 256) (W.alloc (.cells (madeCells #[.int .u8 0] 256) 5)) := print_make (P := Try.prog) 43 5 .u8 1 Try.underlying43 (by kernel_rfl) (by decide) 256 (by omega)
  obtain ⟨CB, hCB⟩ : ∃ C, C = Obj.cells (madeCells #[.int .u8 0] 256) 5 (0, 0) := ⟨_, rfl⟩
  have HMB : Aside0 (∀ (W : World) (B : Nat), B ≤ W.heap.size → Row.Own (W.alloc CB) B 5 (.slice (some ⟨W.heap.size, 0, none⟩) 256 256) (b8s (List.replicate 256 0))) := ⟨fun W B hB => by rw [hCB]; exact made256 W B hB⟩
  rw [← hCB] at hmb
  clear hin hk hb hC16 hCB
  go_enter Try.func63, Try.ntmps63
  go_wp2_with (go_at_call 71; (with_reducible refine (table_any _).mono ?_); rintro e w1 ⟨gt, ct, rfl, ht, hb⟩; have HT := Aside0.mk ht; have HBT := Aside0.mk hb; clear ht hb)
  obtain ⟨Bb, hBb⟩ : ∃ B, B = w1.heap.size := ⟨_, rfl⟩
  have HBb : Aside0 (Bb = w1.heap.size ∧ w.heap.size ≤ Bb) := ⟨hBb, by rw [hBb]; exact HBT.out.size⟩
  have HK0 := Aside0.mk (HMB.out w1 Bb (Nat.le_of_eq hBb))
  have HBK0 : Aside0 (Below Bb w1 (w1.alloc CB)) := ⟨(Below.refl _ _).alloc (Nat.le_of_eq hBb) _⟩
  rw [← hBb] at HK0 ⊢
  clear hBb hmb
  go_loopg [7] 256 (fun gg s7 wr => ∃ (i : Nat) (l : List UInt8), i + gg = 256 ∧ s7 = .int .i64 i ∧ Row.Own wr Bb 5 (.slice (some ⟨Bb, 0, none⟩) 256 256) (b8s l) ∧ PartB i l ∧ Below Bb w1 wr)
  case atStart => exact ⟨0, _, by omega, rfl, HK0.out, PartB.start, HBK0.out⟩
  case round =>
    obtain ⟨i, l, hi, rfl, hx, hp, hb⟩ := hrel
    clear HK0 HBK0
    have HKR := Aside0.mk hx
    have HPB := Aside0.mk hp
    have HBK := Aside0.mk hb
    clear hx hp hb
    cases gk with
    | zero =>
      --@BEGIN MAIN
      as_aux_lemma =>
        have hi256 : i = 256 := by omega
        subst hi256
        have hl : l = inv := HPB.out.done
        rw [hl] at HKR
        have HT1 : Aside0 (Row.Own wr w.heap.size 5 (.slice (some ⟨gt, 0, none⟩) 256 ct) (b8s sbox)) := ⟨HT.out.below HBK.out (Nat.le_of_eq HBb.out.1.symm)⟩
        have HBT1 : Aside0 (Below w.heap.size w wr) := ⟨HBT.out.trans (HBK.out.mono HBb.out.2)⟩
        clear hi hl HPB HT HBT HBK
        go_wp2_with (go_at_call 72; (with_reducible refine (words_any key HK32.out gt ct _ _ HT1.out).mono ?_); rintro e w2 ⟨gw, cw, rfl, hwd, hb⟩; have HW := Aside0.mk hwd; have HBW := Aside0.mk hb; clear hwd hb)
        have HK2 : Aside0 (Row.Own w2 w.heap.size 5 (.slice (some ⟨Bb, 0, none⟩) 256 256) (b8s inv)) := ⟨(HKR.out.go HBW.out).mono HBb.out.2⟩
        have HW2 : Aside0 (Row.Own w2 w.heap.size 5 (.slice (some ⟨gw, 0, none⟩) 240 cw) (b8s (ex key.data.toList 60))) := ⟨HW.out.mono HBT1.out.size⟩
        have HB2 : Aside0 (Below w.heap.size w w2) := ⟨HBT1.out.trans (HBW.out.mono HBT1.out.size)⟩
        have HO0 := Aside0.mk (Row.Own.nil w2 w.heap.size 9)
        obtain ⟨kb, hkb⟩ : ∃ l, l = key.data.toList := ⟨_, rfl⟩
        rw [← hkb] at HW2
        have HKB := Aside0.mk hkb
        have HKL : Aside0 (kb.length = 32) := ⟨by rw [hkb]; exact HK32.out⟩
        have hwl : (ex kb 60).length = 240 := ex_length kb HKL.out 60 (Nat.le_refl _)
        obtain ⟨wk, hwk⟩ : ∃ l, l = ex kb 60 := ⟨_, rfl⟩
        rw [← hwk] at HW2 hwl
        have HWK := Aside0.mk (And.intro hwk hwl)
        obtain ⟨gq, hgq⟩ : ∃ g, g = Bb := ⟨_, rfl⟩
        rw [← hgq] at HK2 ⊢
        clear hkb hwk hwl hgq HW HBW HT1 HBT1 HKR
        go_loopg [9, 10] bl.length (fun gg s9 s10 wr => ∃ n : Nat, n + gg = bl.length ∧ s10 = .int .i64 n ∧ Row.Own wr w.heap.size 9 s9 (strs ((bl.take n).map (decW key))) ∧ Row.Own wr w.heap.size 5 (.slice (some ⟨gq, 0, none⟩) 256 256) (b8s inv) ∧ Row.Own wr w.heap.size 5 (.slice (some ⟨gw, 0, none⟩) 240 cw) (b8s wk) ∧ s9.ownBlock ≠ some gq ∧ s9.ownBlock ≠ some gw ∧ Below w.heap.size w wr)
        case atStart => exact ⟨0, by omega, rfl, HO0.out, HK2.out, HW2.out, by simp [Value.ownBlock], by simp [Value.ownBlock], HB2.out⟩
        case round =>
          obtain ⟨n, hn, rfl, ho, ht, hw, hne1, hne2, hb⟩ := hrel
          clear HO0 HK2 HW2 HB2
          have HO := Aside0.mk ho
          have HT := Aside0.mk ht
          have HW := Aside0.mk hw
          have HNE := Aside0.mk (And.intro hne1 hne2)
          have HB := Aside0.mk hb
          clear ho ht hw hne1 hne2 hb
          cases gk with
          | zero =>
            have hnn : n = bl.length := by omega
            subst hnn
            have hlt : ¬ ((bl.length : Int) < (bl.length : Int)) := by omega
            rw [List.take_length] at HO
            clear hn
            go_wp2
            go_ret
            exact ⟨u9, rfl, HO.out, HB.out⟩
          | succ gk0 =>
            have hlt : (n : Int) < (bl.length : Int) := by omega
            have h0n : (0 : Int) ≤ (n : Int) := by omega
            obtain ⟨x, hx⟩ : ∃ x, bl[n]? = some x := ⟨bl[n]'(by omega), List.getElem?_eq_getElem _⟩
            obtain ⟨ad, rfl⟩ := HIN.out.ex hx
            have hcell := HIN.out.at_ HB.out rfl hx
            have hxs : x.size = 16 := HBL.out x (List.mem_of_getElem? hx)
            obtain ⟨W0, hW0⟩ : ∃ W, W = wr := ⟨_, rfl⟩
            subst hW0
            obtain ⟨Be, hBe⟩ : ∃ B, B = W0.heap.size := ⟨_, rfl⟩
            have HBe : Aside0 (Be = W0.heap.size ∧ w.heap.size ≤ Be) := ⟨hBe, by rw [hBe]; exact HB.out.size⟩
            have hconv := Lib.run_convert_string_bytes (P := Try.prog) W0 9 43 5 x Try.underlying9 Try.underlying43 Try.underlying5
            have HS0 := Aside0.mk (Row.Own.ofString W0 5 x (B := Be) (Nat.le_of_eq hBe) (by rw [hxs]; decide))
            have HBS0 := Aside0.mk (Lib.bytesWorld_below W0 5 x)
            rw [hxs] at hconv HS0
            obtain ⟨cs, hcs⟩ : ∃ cs, cs = grownCap W0 16 0 5 := ⟨_, rfl⟩
            obtain ⟨W1, hW1⟩ : ∃ W, W = Lib.bytesWorld W0 5 x := ⟨_, rfl⟩
            obtain ⟨gs, hgs⟩ : ∃ g, g = W0.heap.size := ⟨_, rfl⟩
            rw [← hW1, ← hcs, ← hgs] at hconv HS0
            rw [← hW1] at HBS0
            rw [← hBe] at HBS0
            obtain ⟨s0, hs0⟩ : ∃ l, l = x.data.toList := ⟨_, rfl⟩
            rw [← hs0] at HS0
            have HSL : Aside0 (s0.length = 16) := ⟨by rw [hs0]; exact hxs⟩
            have HX := Aside0.mk (And.intro hx (And.intro hs0 hn))
            clear hx hxs hcs hW1 hs0 hn hgs hBe
            go_wp2
            clear hconv hcell
            go_loopg [11, 12] 14 (fun gg s11 s12 wr => gg ≤ 14 ∧ s12 = .int .i64 gg ∧ Below Be W0 wr ∧ ∃ g cp : Nat, s11 = .slice (some ⟨g, 0, none⟩) 16 cp ∧ Row.Own wr Be 5 (.slice (some ⟨g, 0, none⟩) 16 cp) (b8s (steps (decRound (cipher kb)) s0 (14 - gg))))
            case atStart => exact ⟨by omega, rfl, HBS0.out, gs, cs, rfl, HS0.out⟩
            case round =>
              obtain ⟨hm14, rfl, hb, g, cp, rfl, hs⟩ := hrel
              clear HS0 HBS0
              have HS := Aside0.mk hs
              have HB1 := Aside0.mk hb
              clear hs hb
              have HGE : Aside0 (Be ≤ g ∧ g < wr.heap.size) := ⟨HS.out.lt g rfl⟩
              have hstl : (steps (decRound (cipher kb)) s0 (14 - gk)).length = 16 := steps_length _ (decRound_length _) s0 HSL.out _
              obtain ⟨st, hst⟩ : ∃ l, l = steps (decRound (cipher kb)) s0 (14 - gk) := ⟨_, rfl⟩
              rw [← hst] at HS hstl
              have HST := Aside0.mk (And.intro hst hstl)
              clear hst hstl
              cases gk with
              | zero =>
                --@BEGIN M2exit
                as_aux_lemma =>
                  clear hm14
                  go_wp2
                  go_loopg [23] 16 (fun gg s23 wr => ∃ (i : Nat) (l : List UInt8), i + gg = 16 ∧ s23 = .int .i64 i ∧ Row.Own wr Be 5 (.slice (some ⟨g, 0, none⟩) 16 cp) (b8s l) ∧ Part (keyF wk st 0) st i l ∧ Below Be W0 wr)
                  case atStart => exact ⟨0, st, by omega, rfl, HS.out, Part.start _ HST.out.2, HB1.out⟩
                  case round =>
                    obtain ⟨i, l, hi, rfl, hs, hp, hb⟩ := hrel
                    clear HS HB1
                    have HS := Aside0.mk hs
                    have HP := Aside0.mk hp
                    have HB1 := Aside0.mk hb
                    clear hs hp hb
                    cases gk with
                    | zero =>
                      have hi16 : i = 16 := by omega
                      subst hi16
                      have hl : l = decS kb s0 := by
                        rw [HP.out.done, HWK.out.1, keyF_all kb st HKL.out 0 (by decide), HST.out.1]
                        rfl
                      have hll : l.length = 16 := HP.out.len
                      have hconv : (convert 43 9 (.slice (some ⟨g, 0, none⟩) 16 cp)).run Try.prog wr = .ok (.string (decW key x)) wr := by
                        have := run_convert_bytes_back (P := Try.prog) wr 43 9 5 ⟨g, 0, none⟩ cp l Try.underlying43 Try.underlying5 Try.underlying9 (fun j hj => by
                          rw [Addr.add_mid, Nat.zero_add, HS.out.cell j _ (b8s_get _ j hj)]
                          simp [gb, List.getD_eq_getElem?_getD, hj])
                        rw [hll] at this
                        have e : decW key x = ⟨l.toArray⟩ := by rw [decW, hl, HX.out.2.1, HKB.out]
                        rw [e]
                        exact this
                      have HBE : Aside0 (Below w.heap.size w wr) := ⟨HB.out.trans (HB1.out.mono HBe.out.2)⟩
                      have HOE : Aside0 (Row.Own wr w.heap.size 9 u9 (strs ((bl.take n).map (decW key)))) := ⟨HO.out.below HB1.out (Nat.le_of_eq HBe.out.1.symm)⟩
                      have HTE : Aside0 (Row.Own wr w.heap.size 5 (.slice (some ⟨gq, 0, none⟩) 256 256) (b8s inv)) := ⟨HT.out.below HB1.out (Nat.le_of_eq HBe.out.1.symm)⟩
                      have HWE : Aside0 (Row.Own wr w.heap.size 5 (.slice (some ⟨gw, 0, none⟩) 240 cw) (b8s wk)) := ⟨HW.out.below HB1.out (Nat.le_of_eq HBe.out.1.symm)⟩
                      have HBS : Aside0 (w.heap.size ≤ wr.heap.size) := ⟨HBE.out.size⟩
                      have HLE : Aside0 ((strs ((bl.take n).map (decW key))).length + 1 ≤ 8796093022208) := ⟨by
                        rw [strs, List.length_map, List.length_map, List.length_take]
                        have := HIN.out.many
                        omega⟩
                      clear hi hl hll HB HB1 HO HT HW
                      go_wp2_with ((with_reducible refine gate_builtin (b := .append) (xs := #[.tmp 209, .tmp 212]) rfl ?_); at_builtin; refine HOE.out.pushSx HBS.out rfl _ _ rfl rfl rfl HLE.out ?_; intro v7 w9 h7 b7 keep hor; have H7 := Aside0.mk h7; have HB7 := Aside0.mk (HBE.out.trans b7); have HT7 := Aside0.mk (keep _ _ _ _ HTE.out (.inr (fun e => HNE.out.1 e.symm))); have HW7 := Aside0.mk (keep _ _ _ _ HWE.out (.inr (fun e => HNE.out.2 e.symm))); have HN7 : Aside0 (v7.ownBlock ≠ some gq ∧ v7.ownBlock ≠ some gw) := ⟨own_ne hor HNE.out.1 (HTE.out.lt gq rfl).2, own_ne hor HNE.out.2 (HWE.out.lt gw rfl).2⟩; clear h7 b7 keep hor)
                      go_roundg gk0
                      case measure => omega
                      case rel =>
                        refine ⟨n + 1, by have := HX.out.2.2; omega, rfl, ?_, HT7.out, HW7.out, HN7.out.1, HN7.out.2, HB7.out⟩
                        have h7 := H7.out
                        have e : bl.take (n + 1) = bl.take n ++ [x] := by
                          obtain ⟨hl, hx⟩ := List.getElem?_eq_some_iff.1 HX.out.1
                          rw [← hx, List.take_append_getElem hl]
                        rw [e, strs, List.map_append, List.map_append]
                        exact h7
                    | succ gk2 =>
                      have hi16 : (i : Int) < 16 := by omega
                      have hin : i < 16 := by omega
                      have HI := Aside0.mk (And.intro hi hin)
                      have c1 := HS.out.cell i _ (b8s_get l i (by rw [HP.out.len]; exact hin))
                      have f1 := HS.out.frozen i (by rw [b8s_length, HP.out.len]; exact hin)
                      have HWw : Aside0 (Row.Own wr w.heap.size 5 (.slice (some ⟨gw, 0, none⟩) 240 cw) (b8s wk)) := ⟨HW.out.below HB1.out (Nat.le_of_eq HBe.out.1.symm)⟩
                      have c2 := HWw.out.cell i _ (b8s_get wk i (by rw [HWK.out.2]; omega))
                      have hi240 : (i : Int) < 240 := by omega
                      have h0i : (0 : Int) ≤ (i : Int) := by omega
                      clear hi hin
                      go_wp2
                      refine wp_region_still_tail 11 (by kernel_rfl) (by kernel_rfl) ?_
                      simp only [List.take_succ_cons, List.take_zero, List.drop_succ_cons, List.drop_zero]
                      iterate 11 still_step
                      refine wpStill_nil ?_
                      change wpList _ _ _ _ _ wr.drew
                      rw [u8x]
                      obtain ⟨z, hz⟩ : ∃ z, z = gb l i ^^^ gb wk i := ⟨_, rfl⟩
                      rw [← hz]
                      have HZ : Aside0 (z = keyF wk st 0 i) := ⟨by rw [hz, HP.out.here HI.out.2, keyF, Nat.mul_zero, Nat.zero_add]⟩
                      have c1' : wr.drew.cell? { block := g, off := i } = some (Value.int IntKind.u8 ↑(gb l i).toNat) := c1
                      have f1' : wr.drew.frozen? { block := g, off := i } = false := f1
                      clear c1 f1 c2 hz
                      go_wp2
                      go_roundg gk2
                      case measure => omega
                      case rel =>
                        refine ⟨i + 1, l.set i z, by have := HI.out; omega, rfl, ?_, HP.out.next HI.out.2 HZ.out, (HB1.out.setCell HGE.out.1 _).drew⟩
                        have h2 := HS.out.set i (by rw [b8s_length, HP.out.len]; exact HI.out.2) (.int .u8 (z.toNat : Int))
                        rw [b8s_set] at h2
                        exact h2.drew
                  --@END M2exit
              | succ gk1 =>
                --@BEGIN RND
                as_aux_lemma =>
                  obtain ⟨rd, hrd⟩ : ∃ r, r = gk1 + 1 := ⟨_, rfl⟩
                  rw [← hrd] at HST ⊢
                  have hr1 : (1 : Int) ≤ (rd : Int) := by omega
                  have HR := Aside0.mk (And.intro hm14 hrd)
                  clear hm14 hrd
                  go_wp2
                  go_loopg [13] 16 (fun gg s13 wr => ∃ (i : Nat) (l : List UInt8), i + gg = 16 ∧ s13 = .int .i64 i ∧ Row.Own wr Be 5 (.slice (some ⟨g, 0, none⟩) 16 cp) (b8s l) ∧ Part (keyF wk st rd) st i l ∧ Below Be W0 wr)
                  case atStart => exact ⟨0, st, by omega, rfl, HS.out, Part.start _ HST.out.2, HB1.out⟩
                  case round =>
                    obtain ⟨i, l, hi, rfl, hs, hp, hb⟩ := hrel
                    clear HS HB1
                    have HS := Aside0.mk hs
                    have HP := Aside0.mk hp
                    have HB1 := Aside0.mk hb
                    clear hs hp hb
                    cases gk with
                    | zero =>
                      have hi16 : i = 16 := by omega
                      subst hi16
                      have hl : l = withL st (rkey (cipher kb) rd) := by rw [HP.out.done, HWK.out.1, keyF_all kb st HKL.out rd (by have := HR.out; omega)]
                      obtain ⟨y, hy⟩ : ∃ y, y = withL st (rkey (cipher kb) rd) := ⟨_, rfl⟩
                      rw [hl, ← hy] at HS
                      have HYE := Aside0.mk hy
                      have HYL : Aside0 (y.length = 16) := ⟨by rw [hy, withL, mk16_length]⟩
                      clear hi HP hl hy
                      by_cases h14 : rd < 14
                      · have h14i : (rd : Int) < 14 := by omega
                        have HR14 := Aside0.mk h14
                        clear h14
                        go_wp2
                        have HP0 : Aside0 (Part (colF y decB) y (4 * 0) y) := ⟨Part.start _ HYL.out⟩
                        go_loopg [14] 4 (fun gg s14 wr => ∃ (c : Nat) (l : List UInt8), c + gg = 4 ∧ s14 = .int .i64 c ∧ Row.Own wr Be 5 (.slice (some ⟨g, 0, none⟩) 16 cp) (b8s l) ∧ Part (colF y decB) y (4 * c) l ∧ Below Be W0 wr)
                        case atStart => exact ⟨0, y, by omega, rfl, HS.out, HP0.out, HB1.out⟩
                        case round =>
                          obtain ⟨cc, l, hc, rfl, hx, hp, hb⟩ := hrel
                          clear HS HB1 HP0
                          have HS := Aside0.mk hx
                          have HP := Aside0.mk hp
                          have HB1 := Aside0.mk hb
                          clear hx hp hb
                          cases gk with
                          | zero =>
                            have hc4 : cc = 4 := by omega
                            subst hc4
                            have hl : l = colL y decB := by rw [show 4 * 4 = 16 from rfl] at HP; rw [HP.out.done, colL]
                            obtain ⟨y2, hy2⟩ : ∃ x, x = colL y decB := ⟨_, rfl⟩
                            rw [hl, ← hy2] at HS
                            have HYE2 : Aside0 (decRound (cipher kb) st (14 - rd) = swapL (rowL y2 3) inv) := ⟨by rw [dec_mid kb st HKL.out rd (by have := HR.out; omega) HR14.out, hy2, HYE.out]⟩
                            have HYL2 : Aside0 (y2.length = 16) := ⟨by rw [hy2, colL, mk16_length]⟩
                            obtain ⟨W2, hW2⟩ : ∃ W, W = wr := ⟨_, rfl⟩
                            subst hW2
                            clear hc HP hl hy2
                            --@BEGIN RA
                            as_aux_lemma =>
                              obtain ⟨Bx, hBx⟩ : ∃ B, B = W2.heap.size := ⟨_, rfl⟩
                              have HBx : Aside0 (Bx = W2.heap.size ∧ Be ≤ Bx ∧ g < Bx) := ⟨hBx, by have := HB1.out.size; have := HBe.out; omega, by have := (HS.out.lt g rfl).2; omega⟩
                              have HX0 := Aside0.mk (HM16.out W2 Bx (Nat.le_of_eq hBx))
                              have HXB : Aside0 (Below Bx W2 (W2.alloc C16)) := ⟨(Below.refl _ _).alloc (Nat.le_of_eq hBx) _⟩
                              go_wp2
                              obtain ⟨gx, hgx⟩ : ∃ g, g = W2.heap.size := ⟨_, rfl⟩
                              rw [← hgx] at HX0 ⊢
                              obtain ⟨W3, hW3⟩ : ∃ W, W = W2.alloc C16 := ⟨_, rfl⟩
                              rw [← hW3] at HX0 HXB
                              have HGX : Aside0 (gx = Bx) := ⟨by rw [hgx, hBx]⟩
                              rw [← hW3]
                              clear hgx hW3 hBx
                              go_loopg [20] 16 (fun gg s20 wr => ∃ (i : Nat) (l : List UInt8), i + gg = 16 ∧ s20 = .int .i64 i ∧ Row.Own wr Bx 5 (.slice (some ⟨gx, 0, none⟩) 16 16) (b8s l) ∧ PartD y2 i l ∧ Below Bx W2 wr)
                              case atStart => exact ⟨0, _, by omega, rfl, HX0.out, PartD.start _, HXB.out⟩
                              case round =>
                                obtain ⟨i, l, hi, rfl, hx, hp, hb⟩ := hrel
                                clear HX0 HXB
                                have HX1 := Aside0.mk hx
                                have HPD := Aside0.mk hp
                                have HB4 := Aside0.mk hb
                                clear hx hp hb
                                cases gk with
                                | zero =>
                                  have hi16 : i = 16 := by omega
                                  subst hi16
                                  have HLE : Aside0 (l = steps (decRound (cipher kb)) s0 (14 - gk1)) := ⟨by
                                    have h1 := HR.out
                                    rw [HPD.out.done, show 14 - gk1 = (14 - rd) + 1 by omega, steps, ← HST.out.1, HYE2.out]⟩
                                  rw [HLE.out] at HX1
                                  have hrp : (rd : Int) - 1 = (gk1 : Int) := by have := HR.out; omega
                                  have hr14 : (rd : Int) ≤ 14 := by have := HR.out; omega
                                  clear hi
                                  go_wp2
                                  go_roundg gk1
                                  case measure => omega
                                  case rel => exact ⟨by have := HR.out; omega, rfl, HB1.out.trans (HB4.out.mono HBx.out.2.1), gx, 16, rfl, HX1.out.mono HBx.out.2.1⟩
                                | succ gk4 =>
                                  have hi16 : (i : Int) < 16 := by omega
                                  have hin : i < 16 := by omega
                                  have HI := Aside0.mk (And.intro hi hin)
                                  obtain ⟨r, hr⟩ : ∃ r, r = i % 4 := ⟨_, rfl⟩
                                  obtain ⟨cq, hcq⟩ : ∃ r, r = i / 4 := ⟨_, rfl⟩
                                  obtain ⟨dq, hdq⟩ : ∃ d, d = (cq + r) % 4 := ⟨_, rfl⟩
                                  obtain ⟨m, hm⟩ : ∃ m, m = r + 4 * dq := ⟨_, rfl⟩
                                  have HM : Aside0 (m = dst i) := ⟨by rw [hm, hdq, hcq, hr]; rfl⟩
                                  have d1 : (i : Int) % 4 = (r : Int) := by omega
                                  have d2 : (i : Int) / 4 = (cq : Int) := by omega
                                  have d3 : ((cq : Int) + (r : Int)) % 4 = (dq : Int) := by omega
                                  have d4 : (r : Int) + 4 * (dq : Int) = (m : Int) := by omega
                                  have d5 : (r : Int) ≤ 3 := by omega
                                  have d6 : (cq : Int) ≤ 3 := by omega
                                  have d7 : (dq : Int) ≤ 3 := by omega
                                  have d8 : (m : Int) < 16 := by omega
                                  have z1 : (0 : Int) ≤ (r : Int) := by omega
                                  have z2 : (0 : Int) ≤ (cq : Int) := by omega
                                  have z3 : (0 : Int) ≤ (dq : Int) := by omega
                                  have z4 : (0 : Int) ≤ (m : Int) := by omega
                                  have h0i : (0 : Int) ≤ (i : Int) := by omega
                                  have hmn : m < 16 := by omega
                                  have HMN := Aside0.mk hmn
                                  have HSw : Aside0 (Row.Own wr Be 5 (.slice (some ⟨g, 0, none⟩) 16 cp) (b8s y2)) := ⟨HS.out.below HB4.out (Nat.le_of_eq HBx.out.1.symm)⟩
                                  have HTw : Aside0 (Row.Own wr w.heap.size 5 (.slice (some ⟨gq, 0, none⟩) 256 256) (b8s inv)) := ⟨HT.out.below (HB1.out.trans (HB4.out.mono HBx.out.2.1)) (Nat.le_of_eq HBe.out.1.symm)⟩
                                  have k1 := HSw.out.cell i _ (b8s_get y2 i (by rw [HYL2.out]; exact hin))
                                  obtain ⟨v, hv⟩ : ∃ v, v = gb y2 i := ⟨_, rfl⟩
                                  rw [← hv] at k1
                                  have k2 := HTw.out.cell v.toNat _ (b8s_get inv v.toNat (by rw [inv_length]; exact v.toNat_lt))
                                  have v1 : (v.toNat : Int) < 256 := by have := v.toNat_lt; omega
                                  have v2 : (0 : Int) ≤ (v.toNat : Int) := by omega
                                  have k3 := HX1.out.cell m _ (b8s_get l m (by rw [HPD.out.1]; exact hmn))
                                  have f3 := HX1.out.frozen m (by rw [b8s_length, HPD.out.1]; exact hmn)
                                  obtain ⟨z, hz⟩ : ∃ z, z = gb inv v.toNat := ⟨_, rfl⟩
                                  rw [← hz] at k2
                                  have HZ : Aside0 (z = gb inv (gb y2 i).toNat) := ⟨by rw [hz, hv]⟩
                                  clear hi hin hr hcq hdq hm hmn hv hz
                                  go_wp2
                                  go_roundg gk4
                                  case measure => omega
                                  case rel =>
                                    refine ⟨i + 1, l.set m z, by have := HI.out; omega, rfl, ?_, by rw [HZ.out, HM.out]; exact HPD.out.next HI.out.2, HB4.out.setCell (by rw [HGX.out]; exact Nat.le_refl _) _⟩
                                    have h2 := HX1.out.set m (by rw [b8s_length, HPD.out.1]; exact HMN.out) (.int .u8 (z.toNat : Int))
                                    rw [b8s_set] at h2
                                    exact h2
                              --@END RA
                          | succ gk3 =>
                            --@BEGIN COL
                            as_aux_lemma =>
                              have hc4 : (cc : Int) < 4 := by omega
                              obtain ⟨q, hq⟩ : ∃ q, q = 4 * cc := ⟨_, rfl⟩
                              have HC := Aside0.mk (And.intro hc hq)
                              have hq12 : q + 3 < 16 := by omega
                              have q1 : 4 * (cc : Int) = (q : Int) := by omega
                              have q2 : (q : Int) ≤ 12 := by omega
                              have q3 : (0 : Int) ≤ (q : Int) := by omega
                              rw [← hq] at HP
                              obtain ⟨a, ha⟩ : ∃ a, a = gb y q := ⟨_, rfl⟩
                              obtain ⟨b, hb⟩ : ∃ a, a = gb y (q + 1) := ⟨_, rfl⟩
                              obtain ⟨d, hd⟩ : ∃ a, a = gb y (q + 2) := ⟨_, rfl⟩
                              obtain ⟨e, he⟩ : ∃ a, a = gb y (q + 3) := ⟨_, rfl⟩
                              have k0 := HS.out.cell q _ (b8s_get l q (by rw [HP.out.len]; omega))
                              have k1 := HS.out.cell (q + 1) _ (b8s_get l (q + 1) (by rw [HP.out.len]; omega))
                              have k2 := HS.out.cell (q + 2) _ (b8s_get l (q + 2) (by rw [HP.out.len]; omega))
                              have k3 := HS.out.cell (q + 3) _ (b8s_get l (q + 3) (by rw [HP.out.len]; omega))
                              rw [HP.out.later (by omega) (by omega), ← ha] at k0
                              rw [HP.out.later (by omega) (by omega), ← hb] at k1
                              rw [HP.out.later (by omega) (by omega), ← hd] at k2
                              rw [HP.out.later (by omega) (by omega), ← he] at k3
                              have HV : Aside0 (colF y decB q = times 14 a ^^^ times 11 b ^^^ times 13 d ^^^ times 9 e ∧ colF y decB (q + 1) = times 9 a ^^^ times 14 b ^^^ times 11 d ^^^ times 13 e ∧ colF y decB (q + 2) = times 13 a ^^^ times 9 b ^^^ times 14 d ^^^ times 11 e ∧ colF y decB (q + 3) = times 11 a ^^^ times 13 b ^^^ times 9 d ^^^ times 14 e) := ⟨by
                                rw [hq, dec_c0, dec_c1, dec_c2, dec_c3, ← hq, ha, hb, hd, he]
                                exact ⟨rfl, rfl, rfl, rfl⟩⟩
                              have e0 : IntKind.i64.wrap (q : Int) = (q : Int) := wrapi_of_bounds (by omega) (by omega)
                              have e1 : IntKind.i64.wrap ((q : Int) + 1) = (q : Int) + 1 := wrapi_of_bounds (by omega) (by omega)
                              have e2 : IntKind.i64.wrap ((q : Int) + 2) = (q : Int) + 2 := wrapi_of_bounds (by omega) (by omega)
                              have e3 : IntKind.i64.wrap ((q : Int) + 3) = (q : Int) + 3 := wrapi_of_bounds (by omega) (by omega)
                              have t2 : ((q : Int) + 2).toNat = q + 2 := by omega
                              have t3 : ((q : Int) + 3).toNat = q + 3 := by omega
                              have n1 : (0 : Int) ≤ (q : Int) + 1 := by omega
                              have n2 : (0 : Int) ≤ (q : Int) + 2 := by omega
                              have n3 : (0 : Int) ≤ (q : Int) + 3 := by omega
                              have b0 : (q : Int) < 16 := by omega
                              have b1 : (q : Int) + 1 < 16 := by omega
                              have b2 : (q : Int) + 2 < 16 := by omega
                              have b3 : (q : Int) + 3 < 16 := by omega
                              have HQ := Aside0.mk hq12
                              clear hc hq hq12 ha hb hd he
                              go_wp2
                              refine wp_region_still_lit (by kernel_rfl) (by kernel_rfl) ?_
                              repeat still_step
                              refine wpStill_nil ?_
                              change Exit.then _ _ _ _ (World.drew wr)
                              obtain ⟨wA, hwA⟩ : ∃ wA, wA = wr.drew := ⟨_, rfl⟩
                              have HXA : Aside0 (Row.Own wA Be 5 (.slice (some ⟨g, 0, none⟩) 16 cp) (b8s l)) := ⟨by rw [hwA]; exact HS.out.drew⟩
                              have HBA : Aside0 (Below Be W0 wA) := ⟨by rw [hwA]; exact HB1.out.trans (Below.refl _ wr).drew⟩
                              have HLL : Aside0 ((b8s l).length = 16) := ⟨by rw [b8s_length, HP.out.len]⟩
                              rw [← hwA]
                              clear k0 k1 k2 k3 hwA HS HB1 e0 e1 e2 e3
                              have k0 := HXA.out.cell q _ (b8s_get l q (by rw [HP.out.len]; have := HQ.out; omega))
                              have k1 := HXA.out.cell (q + 1) _ (b8s_get l (q + 1) (by rw [HP.out.len]; have := HQ.out; omega))
                              have k2 := HXA.out.cell (q + 2) _ (b8s_get l (q + 2) (by rw [HP.out.len]; have := HQ.out; omega))
                              have k3 := HXA.out.cell (q + 3) _ (b8s_get l (q + 3) (by rw [HP.out.len]; have := HQ.out; omega))
                              have f0 := HXA.out.frozen q (by rw [HLL.out]; have := HQ.out; omega)
                              have f1 := HXA.out.frozen (q + 1) (by rw [HLL.out]; have := HQ.out; omega)
                              have f2 := HXA.out.frozen (q + 2) (by rw [HLL.out]; have := HQ.out; omega)
                              have f3 := HXA.out.frozen (q + 3) (by rw [HLL.out]; have := HQ.out; omega)
                              go_wp2_with (go_at_call 73; (first | (with_reducible refine (mul_9 _ _).mono ?_) | (with_reducible refine (mul_11 _ _).mono ?_) | (with_reducible refine (mul_13 _ _).mono ?_) | (with_reducible refine (mul_14 _ _).mono ?_)); rintro ee w' ⟨rfl, rfl⟩)
                              go_roundg gk3
                              case measure => omega
                              case rel =>
                                simp only [u8x]
                                have hq := HQ.out
                                have hll := HLL.out
                                rw [b8s_length] at hll
                                refine ⟨cc + 1, (((l.set q (times 14 a ^^^ times 11 b ^^^ times 13 d ^^^ times 9 e)).set (q + 1) (times 9 a ^^^ times 14 b ^^^ times 11 d ^^^ times 13 e)).set (q + 2) (times 13 a ^^^ times 9 b ^^^ times 14 d ^^^ times 11 e)).set (q + 3) (times 11 a ^^^ times 13 b ^^^ times 9 d ^^^ times 14 e), by have := HC.out; omega, rfl, ?_, ?_, ?_⟩
                                · have h0 := HXA.out.set q (by rw [b8s_length]; omega) (.int .u8 ((times 14 a ^^^ times 11 b ^^^ times 13 d ^^^ times 9 e).toNat : Int))
                                  rw [b8s_set] at h0
                                  have h1 := h0.set (q + 1) (by rw [b8s_length]; simp only [List.length_set]; omega) (.int .u8 ((times 9 a ^^^ times 14 b ^^^ times 11 d ^^^ times 13 e).toNat : Int))
                                  rw [b8s_set] at h1
                                  have h2 := h1.set (q + 2) (by rw [b8s_length]; simp only [List.length_set]; omega) (.int .u8 ((times 13 a ^^^ times 9 b ^^^ times 14 d ^^^ times 11 e).toNat : Int))
                                  rw [b8s_set] at h2
                                  have h3 := h2.set (q + 3) (by rw [b8s_length]; simp only [List.length_set]; omega) (.int .u8 ((times 11 a ^^^ times 13 b ^^^ times 9 d ^^^ times 14 e).toNat : Int))
                                  rw [b8s_set] at h3
                                  exact h3
                                · have h4 : 4 * (cc + 1) = q + 3 + 1 := by have := HC.out.2; omega
                                  rw [h4]
                                  obtain ⟨v0, v1, v2, v3⟩ := HV.out
                                  exact (((HP.out.next (by omega) v0.symm).next (by omega) v1.symm).next (by omega) v2.symm).next (by omega) v3.symm
                                · exact (((HBA.out.setCell HGE.out.1 _).setCell HGE.out.1 _).setCell HGE.out.1 _).setCell HGE.out.1 _
                              --@END COL
                      · have hrd : rd = 14 := by have := HR.out; omega
                        have h14i : ¬ ((rd : Int) < 14) := by omega
                        obtain ⟨y2, hy2⟩ : ∃ x, x = y := ⟨_, rfl⟩
                        have HYE2 : Aside0 (decRound (cipher kb) st (14 - rd) = swapL (rowL y2 3) inv) := ⟨by
                          have e := HYE.out
                          rw [hrd] at e
                          rw [hrd, show 14 - 14 = 0 from rfl, dec_first kb st HKL.out, hy2, e]⟩
                        have HYL2 : Aside0 (y2.length = 16) := ⟨by rw [hy2]; exact HYL.out⟩
                        rw [← hy2] at HS
                        obtain ⟨W2, hW2⟩ : ∃ W, W = wr := ⟨_, rfl⟩
                        subst hW2
                        clear hy2 h14 hrd
                        --@BEGIN RB
                        as_aux_lemma =>
                          obtain ⟨Bx, hBx⟩ : ∃ B, B = W2.heap.size := ⟨_, rfl⟩
                          have HBx : Aside0 (Bx = W2.heap.size ∧ Be ≤ Bx ∧ g < Bx) := ⟨hBx, by have := HB1.out.size; have := HBe.out; omega, by have := (HS.out.lt g rfl).2; omega⟩
                          have HX0 := Aside0.mk (HM16.out W2 Bx (Nat.le_of_eq hBx))
                          have HXB : Aside0 (Below Bx W2 (W2.alloc C16)) := ⟨(Below.refl _ _).alloc (Nat.le_of_eq hBx) _⟩
                          go_wp2
                          obtain ⟨gx, hgx⟩ : ∃ g, g = W2.heap.size := ⟨_, rfl⟩
                          rw [← hgx] at HX0 ⊢
                          obtain ⟨W3, hW3⟩ : ∃ W, W = W2.alloc C16 := ⟨_, rfl⟩
                          rw [← hW3] at HX0 HXB
                          have HGX : Aside0 (gx = Bx) := ⟨by rw [hgx, hBx]⟩
                          rw [← hW3]
                          clear hgx hW3 hBx
                          go_loopg [20] 16 (fun gg s20 wr => ∃ (i : Nat) (l : List UInt8), i + gg = 16 ∧ s20 = .int .i64 i ∧ Row.Own wr Bx 5 (.slice (some ⟨gx, 0, none⟩) 16 16) (b8s l) ∧ PartD y2 i l ∧ Below Bx W2 wr)
                          case atStart => exact ⟨0, _, by omega, rfl, HX0.out, PartD.start _, HXB.out⟩
                          case round =>
                            obtain ⟨i, l, hi, rfl, hx, hp, hb⟩ := hrel
                            clear HX0 HXB
                            have HX1 := Aside0.mk hx
                            have HPD := Aside0.mk hp
                            have HB4 := Aside0.mk hb
                            clear hx hp hb
                            cases gk with
                            | zero =>
                              have hi16 : i = 16 := by omega
                              subst hi16
                              have HLE : Aside0 (l = steps (decRound (cipher kb)) s0 (14 - gk1)) := ⟨by
                                have h1 := HR.out
                                rw [HPD.out.done, show 14 - gk1 = (14 - rd) + 1 by omega, steps, ← HST.out.1, HYE2.out]⟩
                              rw [HLE.out] at HX1
                              have hrp : (rd : Int) - 1 = (gk1 : Int) := by have := HR.out; omega
                              have hr14 : (rd : Int) ≤ 14 := by have := HR.out; omega
                              clear hi
                              go_wp2
                              go_roundg gk1
                              case measure => omega
                              case rel => exact ⟨by have := HR.out; omega, rfl, HB1.out.trans (HB4.out.mono HBx.out.2.1), gx, 16, rfl, HX1.out.mono HBx.out.2.1⟩
                            | succ gk4 =>
                              have hi16 : (i : Int) < 16 := by omega
                              have hin : i < 16 := by omega
                              have HI := Aside0.mk (And.intro hi hin)
                              obtain ⟨r, hr⟩ : ∃ r, r = i % 4 := ⟨_, rfl⟩
                              obtain ⟨cq, hcq⟩ : ∃ r, r = i / 4 := ⟨_, rfl⟩
                              obtain ⟨dq, hdq⟩ : ∃ d, d = (cq + r) % 4 := ⟨_, rfl⟩
                              obtain ⟨m, hm⟩ : ∃ m, m = r + 4 * dq := ⟨_, rfl⟩
                              have HM : Aside0 (m = dst i) := ⟨by rw [hm, hdq, hcq, hr]; rfl⟩
                              have d1 : (i : Int) % 4 = (r : Int) := by omega
                              have d2 : (i : Int) / 4 = (cq : Int) := by omega
                              have d3 : ((cq : Int) + (r : Int)) % 4 = (dq : Int) := by omega
                              have d4 : (r : Int) + 4 * (dq : Int) = (m : Int) := by omega
                              have d5 : (r : Int) ≤ 3 := by omega
                              have d6 : (cq : Int) ≤ 3 := by omega
                              have d7 : (dq : Int) ≤ 3 := by omega
                              have d8 : (m : Int) < 16 := by omega
                              have z1 : (0 : Int) ≤ (r : Int) := by omega
                              have z2 : (0 : Int) ≤ (cq : Int) := by omega
                              have z3 : (0 : Int) ≤ (dq : Int) := by omega
                              have z4 : (0 : Int) ≤ (m : Int) := by omega
                              have h0i : (0 : Int) ≤ (i : Int) := by omega
                              have hmn : m < 16 := by omega
                              have HMN := Aside0.mk hmn
                              have HSw : Aside0 (Row.Own wr Be 5 (.slice (some ⟨g, 0, none⟩) 16 cp) (b8s y2)) := ⟨HS.out.below HB4.out (Nat.le_of_eq HBx.out.1.symm)⟩
                              have HTw : Aside0 (Row.Own wr w.heap.size 5 (.slice (some ⟨gq, 0, none⟩) 256 256) (b8s inv)) := ⟨HT.out.below (HB1.out.trans (HB4.out.mono HBx.out.2.1)) (Nat.le_of_eq HBe.out.1.symm)⟩
                              have k1 := HSw.out.cell i _ (b8s_get y2 i (by rw [HYL2.out]; exact hin))
                              obtain ⟨v, hv⟩ : ∃ v, v = gb y2 i := ⟨_, rfl⟩
                              rw [← hv] at k1
                              have k2 := HTw.out.cell v.toNat _ (b8s_get inv v.toNat (by rw [inv_length]; exact v.toNat_lt))
                              have v1 : (v.toNat : Int) < 256 := by have := v.toNat_lt; omega
                              have v2 : (0 : Int) ≤ (v.toNat : Int) := by omega
                              have k3 := HX1.out.cell m _ (b8s_get l m (by rw [HPD.out.1]; exact hmn))
                              have f3 := HX1.out.frozen m (by rw [b8s_length, HPD.out.1]; exact hmn)
                              obtain ⟨z, hz⟩ : ∃ z, z = gb inv v.toNat := ⟨_, rfl⟩
                              rw [← hz] at k2
                              have HZ : Aside0 (z = gb inv (gb y2 i).toNat) := ⟨by rw [hz, hv]⟩
                              clear hi hin hr hcq hdq hm hmn hv hz
                              go_wp2
                              go_roundg gk4
                              case measure => omega
                              case rel =>
                                refine ⟨i + 1, l.set m z, by have := HI.out; omega, rfl, ?_, by rw [HZ.out, HM.out]; exact HPD.out.next HI.out.2, HB4.out.setCell (by rw [HGX.out]; exact Nat.le_refl _) _⟩
                                have h2 := HX1.out.set m (by rw [b8s_length, HPD.out.1]; exact HMN.out) (.int .u8 (z.toNat : Int))
                                rw [b8s_set] at h2
                                exact h2
                          --@END RB
                    | succ gk2 =>
                      --@BEGIN XOR
                      as_aux_lemma =>
                        have hi16 : (i : Int) < 16 := by omega
                        have hin : i < 16 := by omega
                        have HI := Aside0.mk (And.intro hi hin)
                        obtain ⟨p, hp⟩ : ∃ p, p = 16 * rd := ⟨_, rfl⟩
                        obtain ⟨m, hm⟩ : ∃ m, m = p + i := ⟨_, rfl⟩
                        have hrd : rd ≤ 14 := by have := HR.out; omega
                        have d1 : 16 * (rd : Int) = (p : Int) := by omega
                        have d2 : IntKind.i64.wrap (p : Int) = (p : Int) := wrapi_of_bounds (by omega) (by omega)
                        have d3 : (p : Int) + (i : Int) = (m : Int) := by omega
                        have d4 : IntKind.i64.wrap (m : Int) = (m : Int) := wrapi_of_bounds (by omega) (by omega)
                        have d5 : (m : Int) < 240 := by omega
                        have d6 : (0 : Int) ≤ (m : Int) := by omega
                        have h0i : (0 : Int) ≤ (i : Int) := by omega
                        have HWw : Aside0 (Row.Own wr w.heap.size 5 (.slice (some ⟨gw, 0, none⟩) 240 cw) (b8s wk)) := ⟨HW.out.below HB1.out (Nat.le_of_eq HBe.out.1.symm)⟩
                        have k2 := HWw.out.cell m _ (b8s_get wk m (by rw [HWK.out.2]; omega))
                        have k3 := HS.out.cell i _ (b8s_get l i (by rw [HP.out.len]; exact hin))
                        have f3 := HS.out.frozen i (by rw [b8s_length, HP.out.len]; exact hin)
                        have HZE : Aside0 (gb st i ^^^ gb wk m = keyF wk st rd i) := ⟨by rw [keyF, hm, hp]⟩
                        clear hi hin hp hm hrd
                        go_wp2
                        refine wp_region_still_tail 14 (by kernel_rfl) (by kernel_rfl) ?_
                        simp only [List.take_succ_cons, List.take_zero, List.drop_succ_cons, List.drop_zero]
                        iterate 14 still_step
                        refine wpStill_nil ?_
                        change wpList _ _ _ _ _ wr.drew
                        rw [u8x]
                        obtain ⟨z, hz⟩ : ∃ z, z = gb l i ^^^ gb wk m := ⟨_, rfl⟩
                        rw [← hz]
                        have HZ : Aside0 (z = keyF wk st rd i) := ⟨by rw [hz, HP.out.here HI.out.2, HZE.out]⟩
                        have k3' : wr.drew.cell? { block := g, off := i } = some (Value.int IntKind.u8 ↑(gb l i).toNat) := k3
                        have f3' : wr.drew.frozen? { block := g, off := i } = false := f3
                        clear k2 k3 f3 hz d1 d2 d3 d4 d5 d6 HZE
                        go_wp2
                        go_roundg gk2
                        case measure => omega
                        case rel =>
                          refine ⟨i + 1, l.set i z, by have := HI.out; omega, rfl, ?_, HP.out.next HI.out.2 HZ.out, (HB1.out.setCell HGE.out.1 _).drew⟩
                          have h2 := HS.out.set i (by rw [b8s_length, HP.out.len]; exact HI.out.2) (.int .u8 (z.toNat : Int))
                          rw [b8s_set] at h2
                          exact h2.drew
                        --@END XOR
                  --@END RND
    | succ gk1 =>
      --@BEGIN BACK
      as_aux_lemma =>
        have hi256 : (i : Int) < 256 := by omega
        have hin : i < 256 := by omega
        have h0i : (0 : Int) ≤ (i : Int) := by omega
        have HI := Aside0.mk (And.intro hi hin)
        have HTw : Aside0 (Row.Own wr w.heap.size 5 (.slice (some ⟨gt, 0, none⟩) 256 ct) (b8s sbox)) := ⟨HT.out.below HBK.out (Nat.le_of_eq HBb.out.1.symm)⟩
        have k1 := HTw.out.cell i _ (b8s_get sbox i (by rw [sbox_length]; exact hin))
        obtain ⟨v, hv⟩ : ∃ v, v = gb sbox i := ⟨_, rfl⟩
        rw [← hv] at k1
        have v1 : (v.toNat : Int) < 256 := by have := v.toNat_lt; omega
        have v2 : (0 : Int) ≤ (v.toNat : Int) := by omega
        have k3 := HKR.out.cell v.toNat _ (b8s_get l v.toNat (by rw [HPB.out.1]; exact v.toNat_lt))
        have f3 := HKR.out.frozen v.toNat (by rw [b8s_length, HPB.out.1]; exact v.toNat_lt)
        have HV := Aside0.mk hv
        have HU : Aside0 ((i : Int) = ((UInt8.ofNat i).toNat : Int)) := ⟨by rw [UInt8.toNat_ofNat']; omega⟩
        clear hi hin hv
        go_wp2
        go_roundg gk1
        case measure => omega
        case rel =>
          refine ⟨i + 1, l.set v.toNat (UInt8.ofNat i), by have := HI.out; omega, rfl, ?_, by rw [HV.out]; exact HPB.out.next HI.out.2, HBK.out.setCell (Nat.le_refl _) _⟩
          have h2 := HKR.out.set v.toNat (by rw [b8s_length, HPB.out.1]; exact v.toNat_lt) (.int .u8 ((UInt8.ofNat i).toNat : Int))
          rw [b8s_set, ← HU.out] at h2
          exact h2
        --@END BACK
end Go.Proofs.Ytdegeodegjmddaa.Given
