/- The contract of aes.New at a key of 32 bytes. Conditions: the key's length. -/
import Derived.Test.YtdegeodegjmddaaZAesQ1
namespace Go.Proofs.Ytdegeodegjmddaa.Given
open Go.RowKit Go.Proofs.YtdegeodegjmddaaW.PrintWords Go.Proofs.YtdegeodegjmddaaW.PrintLast Go.Proofs.YtdegeodegjmddaaW.PrintMore
open Go.Proofs.Ytdegeodegjmddaa.Row Go.Proofs.Ytdegeodegjmddaa.Aes Go.Proofs.Ytdegeodegjmddaa.Row.At
set_option maxRecDepth 100000
set_option linter.unusedVariables false
set_option linter.unusedSimpArgs false
attribute [-simp] Try.isAgg89 Try.isAgg80 Try.isAgg75 Try.isAgg78 Try.isAgg83
theorem infoC : (Try.prog.info? 80).map (fun i => (i.zero, i.size)) = some (some (.agg (Array.replicate 752 (.int .u8 0))), 752) := by kernel_rfl
theorem infoW : (Try.prog.info? 89).map (fun i => (i.zero, i.size)) = some (some (.agg (Array.replicate 240 (.int .u8 0))), 240) := by kernel_rfl
theorem info4 : (Try.prog.info? 83).map (·.size) = some 4 := by kernel_rfl
theorem zeros_arr (n : Nat) : (b8s (List.replicate n 0)).toArray = Array.replicate n (Value.int .u8 0) := by
  rw [b8s, List.map_replicate, List.toArray_replicate]
  rfl
theorem new_zeros {w : World} {t : TypeId} {g : Nat} (n : Nat) (hg : g = w.heap.size) : At (w.alloc (.cells (Array.replicate n (.int .u8 0)) t (0, 0))) g t (b8s (List.replicate n 0)) := by
  rw [← zeros_arr]
  exact At.newAt hg
/-- A word out of all words, a value. -/
theorem index_word (W : List UInt8) (i : Nat) (h : i < 60) (hs : W.length = 240) (w : World) : (Instr.index 89 (.agg (b8s W).toArray) (.int .i64 (i : Int))).run Try.prog w = .ok (.agg (b8s ((W.drop (i * 4)).take 4)).toArray) w := by
  have h1 : (0 : Int) ≤ (i : Int) ∧ (i : Int) < 60 := by omega
  have ha : (isAgg 83).run Try.prog w = .ok true w := Try.isAgg83 w
  have e : (b8s W).toArray.extract (i * 4) (i * 4 + 4) = (b8s ((W.drop (i * 4)).take 4)).toArray := by
    simp [b8s, List.map_take, List.map_drop, List.extract]
  simp [Instr.index, go_sem, h1, part, ha]
  rw [if_pos h]
  simp [b8s, List.map_take, List.map_drop]
set_option maxHeartbeats 4000000 in
set_option maxRecDepth 100000 in
theorem new_ok (key : ByteArray) (hk : key.size = 32) (w : World) :
    Calls Try.prog 46 #[.string key] w fun e w' => e = .returned (.tuple #[.pointer (some ⟨w.heap.size, 0, none⟩), .int .i64 0]) ∧
      At w' w.heap.size 80 (b8s (cipher key.data.toList)) ∧ Below w.heap.size w w' := by
  have HK := Aside0.mk hk
  have z1 := (zero_of_info infoC).1
  have z2 := (zero_of_info infoW).1
  have hs : ((key.size : Int) != 32) = false := by rw [hk]; rfl
  clear hk
  go_enter Try.func46, Try.ntmps46
  go_wp2_with ((go_at_call 66; (refine (standIns_any w.heap.size _ (new_zeros 752 rfl)).mono ?_); rintro e w1 ⟨rfl, hc1, hb1⟩; have HC1 := Aside0.mk hc1; have HB1 := Aside0.mk hb1; clear hc1 hb1))
  obtain ⟨g, hg⟩ : ∃ g, g = w.heap.size := ⟨_, rfl⟩
  obtain ⟨gW, hgW⟩ : ∃ gW, gW = w1.heap.size := ⟨_, rfl⟩
  have hlt : g < gW := by rw [hg, hgW]; exact HC1.out.lt
  have HBg : Aside0 (Below g w w1) := ⟨by rw [hg]; exact ((Below.refl _ w).alloc (Nat.le_refl _) _).trans HB1.out⟩
  have HCg : Aside0 (At w1 g 80 (b8s standCells)) := ⟨by rw [hg]; exact HC1.out⟩
  rw [← hg, ← hgW]
  have HGW := Aside0.mk hgW
  have HG := Aside0.mk hg
  clear HB1 HC1 hgW hg
  obtain ⟨kb, hkb⟩ : ∃ kb, kb = key.data.toList := ⟨_, rfl⟩
  have HKB : Aside0 (kb = key.data.toList ∧ kb.length = 32) := ⟨hkb, by rw [hkb, ← HK.out]; exact Array.length_toList⟩
  clear hkb
  go_loopg [20, 6] 60 (fun gg s20 s6 wx => ∃ i : Nat, i + gg = 60 ∧ s20 = .int .i64 i ∧ s6 = .int .u8 (pow ((i - 1) / 8)).toNat ∧ At wx g 80 (b8s standCells) ∧ At wx gW 89 (b8s (ex kb i)) ∧ Below g w wx)
  case atStart => exact ⟨0, by omega, rfl, rfl, HCg.out.alloc _, new_zeros 240 HGW.out, HBg.out.alloc (by have := HGW.out; omega) _⟩
  case round =>
    obtain ⟨i, hig, rfl, rfl, hc, hx, hb⟩ := hrel
    have HC := Aside0.mk hc; have HX := Aside0.mk hx; have HB := Aside0.mk hb
    clear hc hx hb HBg HCg
    cases gk with
    | zero =>
      have hi : i = 60 := by omega
      subst hi
      go_wp2_with ((with_reducible refine gate_dst (N := 95) rfl ?_); refine HX.out.load _ _ rfl rfl rfl _ Try.underlying89 rfl (by rw [b8s_length, ex_length kb HKB.out.2 60 (Nat.le_refl _)]; exact (zero_of_info infoW).2) ?_)
      obtain ⟨W, hW⟩ : ∃ W, W = ex kb 60 := ⟨_, rfl⟩
      have HWL : Aside0 (W.length = 240) := ⟨by rw [hW]; exact ex_length kb HKB.out.2 60 (Nat.le_refl _)⟩
      have HW := Aside0.mk hW
      rw [← hW]
      clear hW HX hig
      go_loopg [96] 60 (fun gg s96 wx => ∃ i : Nat, i + gg = 60 ∧ s96 = .int .i64 i ∧ At wx g 80 (b8s (keyCells W i)) ∧ Below g w wx)
      case atStart => exact ⟨0, by omega, rfl, by rw [keyCells_zero]; exact HC.out, HB.out⟩
      case round =>
        obtain ⟨i, hig, rfl, hc, hb⟩ := hrel
        clear HC HB
        have HC := Aside0.mk hc; have HB := Aside0.mk hb
        clear hc hb
        cases gk with
        | zero =>
          have hi : i = 60 := by omega
          subst hi
          go_wp2
          go_ret2
          refine ⟨by rw [← HG.out]; rfl, ?_, by rw [← HG.out]; exact HB.out⟩
          have := HC.out
          rw [HW.out, HKB.out.1, HG.out] at this
          exact this
        | succ gk =>
          have hi : (i : Int) < 60 := by omega
          have hix : ∀ w, (Instr.index 89 (.agg (b8s W).toArray) (.int .i64 (i : Int))).run Try.prog w = .ok (.agg (b8s ((W.drop (i * 4)).take 4)).toArray) w := fun w => index_word W i (by omega) HWL.out w
          obtain ⟨wd, hwd⟩ : ∃ wd, wd = (W.drop (i * 4)).take 4 := ⟨_, rfl⟩
          have hwl : wd.length = 4 := by rw [hwd, List.length_take, List.length_drop, HWL.out]; omega
          rw [← hwd] at hix
          have HWD := Aside0.mk hwd
          have HWDL := Aside0.mk hwl
          clear hwd hwl
          have hlg : g < wr.heap.size := HC.out.lt
          go_wp2_with (refine (At.newAt (w := wr) (cs := b8s (List.replicate 4 0)) rfl).store _ _ _ (b8s wd) rfl rfl rfl rfl (by simp [HWDL.out]) (by rw [b8s_length, HWDL.out]; exact info4) (At.one8 wd) ?_; obtain ⟨wy, hwy⟩ : ∃ wy, wy = ((wr.alloc (Obj.cells (b8s (List.replicate 4 0)).toArray 83)).setRow wr.heap.size (b8s wd).toArray) := ⟨_, rfl⟩; rw [← hwy]; have HWY : Aside0 (At wy wr.heap.size 83 (b8s wd) ∧ At wy g 80 (b8s (keyCells W i)) ∧ Below g w wy) := ⟨by rw [hwy]; exact ⟨(At.newAt rfl).setRow _, (HC.out.alloc _).setRow_other _ _ (by omega), row_below (HB.out.alloc (by omega) _) (by omega) _⟩⟩; clear hwy; obtain ⟨gw, hgw⟩ : ∃ gw, gw = wr.heap.size := ⟨_, rfl⟩; rw [← hgw]; rw [← hgw] at HWY hlg; clear hgw hix)
          obtain ⟨r, hr⟩ : ∃ r, r = i % 4 := ⟨_, rfl⟩
          obtain ⟨u, hu⟩ : ∃ u, u = 4 * r := ⟨_, rfl⟩
          have e3 : (i : Int).tmod 4 = (r : Int) := by
            rw [Int.tmod_eq_emod_of_nonneg (by omega)]
            omega
          have e1 : IntKind.i64.wrap (4 * (r : Int)) = (u : Int) := by
            rw [show 4 * (r : Int) = (u : Int) by omega]
            exact wrapi_of_bounds (by omega) (by omega)
          have hu16 : (u : Int) ≤ 16 := by omega
          have hu12 : ¬ (16 = u) := by omega
          obtain ⟨q, hq⟩ : ∃ q, q = i / 4 := ⟨_, rfl⟩
          have e2 : IntKind.i64.wrap ((i : Int) / 4) = (q : Int) := by
            rw [show (i : Int) / 4 = (q : Int) by omega]
            exact wrapi_of_bounds (by omega) (by omega)
          have hq15 : (q : Int) < 15 := by omega
          have HQU : Aside0 (q * 16 + u = 4 * i) := ⟨by omega⟩
          have HU := Aside0.mk (show u ≤ 12 by omega)
          clear hq hu hr
          refine wp_region_still_tail 11 (by kernel_rfl) (by kernel_rfl) ?_
          simp only [List.take_succ_cons, List.take_zero, List.drop_succ_cons, List.drop_zero]
          iterate 11 still_step
          refine wpStill_nil ?_
          change wpList _ _ _ _ _ wy.drew
          have hkl : (keyCells W i).length = 752 := keyCells_length W HWL.out i (by omega)
          have h4d : wd.length = 4 := HWDL.out
          refine (HWY.out.2.1.drew).copyRow (HWY.out.1.drew) (.tmp 109) (.tmp 110) 43 43 5 (q * 16 + u) (16 - u) (16 - u) 4 rfl rfl rfl (by rw [h4d]; rfl) Try.underlying43 (by kernel_rfl) (by have := HU.out; omega) (by have := HU.out; have := HQU.out; omega) ?_
          have hke : spl (keyCells W i) (q * 16 + u) wd = keyCells W (i + 1) := by
            rw [HQU.out, HWD.out, Nat.mul_comm i 4]
            exact keyCells_next W HWL.out i (by omega)
          rw [hke]
          have HC2 : Aside0 (At (wy.drew.setRow g (b8s (keyCells W (i + 1))).toArray) g 80 (b8s (keyCells W (i + 1)))) := ⟨HWY.out.2.1.drew.setRow _⟩
          have HB2 : Aside0 (Below g w (wy.drew.setRow g (b8s (keyCells W (i + 1))).toArray)) := ⟨row_below HWY.out.2.2.drew (Nat.le_refl _) _⟩
          clear hkl h4d hke HWY HC HB e1 e2 e3
          simp [Act.put]
          go_wp2
          go_roundg gk
          case measure => omega
          case rel => exact ⟨i + 1, by omega, by go_num, HC2.out, HB2.out⟩
    | succ go =>
      have hi : i < 60 := by omega
      by_cases h8 : i < 8
      · obtain ⟨u, hu⟩ : ∃ u, u = 4 * i := ⟨_, rfl⟩
        have e1 : IntKind.i64.wrap (4 * (i : Int)) = (u : Int) := by
          rw [show 4 * (i : Int) = (u : Int) by omega]
          exact wrapi_of_bounds (by omega) (by omega)
        have hu32 : (u : Int) ≤ (key.size : Int) := by have := HK.out; omega
        have hi60 : (i : Int) < 60 := by omega
        have HU := Aside0.mk hu
        go_wp2
        clear hu
        refine wp_region_still_tail 7 (by kernel_rfl) (by kernel_rfl) ?_
        simp only [List.take_succ_cons, List.take_zero, List.drop_succ_cons, List.drop_zero]
        iterate 7 still_step
        refine wpStill_nil ?_
        change wpList _ _ _ _ _ wr.drew
        have hxl : (ex kb i).length = 240 := ex_length kb HKB.out.2 i (by omega)
        have hmin : Nat.min (key.extract u key.size).size 4 = 4 := by
          rw [ByteArray.size_extract]
          have := HK.out
          have := HU.out
          show min _ 4 = 4
          omega
        refine (HX.out.drew).copyStr (.tmp 27) (.tmp 31) 43 9 5 (i * 4) 4 4 (key.extract u key.size) rfl rfl rfl rfl Try.underlying43 (by kernel_rfl) (by rw [hmin, hxl]; omega) ?_
        have hex : spl (ex kb i) (i * 4) ((key.extract u key.size).data.toList.take 4) = ex kb (i + 1) := by
          rw [ex, if_pos h8]
          congr 1
          rw [ByteArray.data_extract, Array.toList_extract, HKB.out.1, HU.out, Nat.mul_comm 4 i]
          simp only [List.extract]
          rw [List.take_take]
          congr 1
          have := HK.out
          omega
        rw [hex]
        have HX2 : Aside0 (At (wr.drew.setRow gW (b8s (ex kb (i + 1))).toArray) gW 89 (b8s (ex kb (i + 1)))) := ⟨HX.out.drew.setRow _⟩
        have HC2 : Aside0 (At (wr.drew.setRow gW (b8s (ex kb (i + 1))).toArray) g 80 (b8s standCells)) := ⟨HC.out.drew.setRow_other _ _ (by omega)⟩
        have HB2 : Aside0 (Below g w (wr.drew.setRow gW (b8s (ex kb (i + 1))).toArray)) := ⟨row_below HB.out.drew (by omega) _⟩
        have hpow : pow ((i - 1) / 8) = pow ((i + 1 - 1) / 8) := by
          congr 1
          omega
        have HP := Aside0.mk hpow
        clear hxl hmin hex hpow HX HC HB
        simp [Act.put]
        go_wp2
        go_roundg go
        case measure => omega
        case rel => exact ⟨i + 1, by omega, by go_num, by rw [HP.out], HC2.out, HX2.out, HB2.out⟩
      · have hxl := ex_length kb HKB.out.2 i (by omega)
        obtain ⟨W, hW⟩ : ∃ W, W = ex kb i := ⟨_, rfl⟩
        rw [← hW] at hxl
        have HW := Aside0.mk hW
        have HWL := Aside0.mk hxl
        have HXW : Aside0 (At wr gW 89 (b8s W)) := ⟨by rw [hW]; exact HX.out⟩
        clear hW hxl HX
        have h4 := info4
        obtain ⟨wd, hwd⟩ : ∃ wd, wd = wordA W i := ⟨_, rfl⟩
        have hwl : wd.length = 4 := by rw [hwd]; exact wordA_length W i HWL.out (by omega) (by omega)
        have HWD := Aside0.mk hwd
        have HWDL := Aside0.mk hwl
        clear hwd hwl h4
        have hlw : gW < wr.heap.size := HXW.out.lt
        have HWY : Aside0 (At ((wr.alloc (Obj.cells (b8s (List.replicate 4 0)).toArray 83)).setRow wr.heap.size (b8s wd).toArray) wr.heap.size 83 (b8s wd) ∧ At ((wr.alloc (Obj.cells (b8s (List.replicate 4 0)).toArray 83)).setRow wr.heap.size (b8s wd).toArray) gW 89 (b8s W) ∧ At ((wr.alloc (Obj.cells (b8s (List.replicate 4 0)).toArray 83)).setRow wr.heap.size (b8s wd).toArray) g 80 (b8s standCells) ∧ Below g w ((wr.alloc (Obj.cells (b8s (List.replicate 4 0)).toArray 83)).setRow wr.heap.size (b8s wd).toArray)) :=
          ⟨(At.newAt rfl).setRow _, (HXW.out.alloc _).setRow_other _ _ (by omega), (HC.out.alloc _).setRow_other _ _ (by omega), row_below (HB.out.alloc (by omega) _) (by omega) _⟩
        obtain ⟨gw, hgw⟩ : ∃ gw, gw = wr.heap.size := ⟨_, rfl⟩
        have hlw2 : gW < gw := by rw [hgw]; exact hlw
        have HGW3 := Aside0.mk hgw
        have i60 : (i : Int) < 60 := by omega
        have i8 : decide ((i : Int) < 8) = false := decide_eq_false (by omega)
        by_cases h8i : i % 8 = 0
        · have hm8 : ((i : Int) % 8 == 0) = true := beq_iff_eq.2 (by omega)
          have hm4 : ((i : Int) % 4 == 0) = true := beq_iff_eq.2 (by omega)
          obtain ⟨x1, hx1⟩ : ∃ x1, x1 = (turnW wd) := ⟨_, rfl⟩
          have hx1l : x1.length = 4 := by rw [hx1]; rfl
          have HX1 := Aside0.mk hx1
          have HX1L := Aside0.mk hx1l
          clear hx1l hx1
          go_wp2_with (first | ((with_reducible refine gate_dst (N := 36) rfl ?_); refine HXW.out.loadMid _ _ ((i - 1) * 4) 4 (by rw [HWL.out]; omega) rfl rfl rfl _ Try.underlying83 rfl info4 ?_; rw [show (W.drop ((i - 1) * 4)).take 4 = wd from HWD.out.symm]) | (refine HD0.out.store _ _ _ (b8s x1) rfl rfl rfl (by rw [HX1.out]; rfl) (by simp [HWDL.out, HX1L.out]) (by rw [b8s_length, HX1L.out]; exact info4) (At.one8 x1) ?_; have HD := Aside0.mk (HD0.out.setRow (b8s x1)); have HXW := Aside0.mk (HXW0.out.setRow_other gw (b8s x1) (by omega)); have HC := Aside0.mk (HC0.out.setRow_other gw (b8s x1) (by omega)); have HB := Aside0.mk (row_below HB0.out (by omega : g ≤ gw) (b8s x1).toArray); clear d0 d1 d2 d3 HD0 HXW0 HC0 HB0) | (refine (At.newAt (w := wr) (cs := b8s (List.replicate 4 0)) rfl).store _ _ _ (b8s wd) rfl rfl rfl rfl (by simp [HWDL.out]) (by rw [b8s_length, HWDL.out]; exact info4) (At.one8 wd) ?_; obtain ⟨wy, hwy⟩ : ∃ wy, wy = ((wr.alloc (Obj.cells (b8s (List.replicate 4 0)).toArray 83)).setRow wr.heap.size (b8s wd).toArray) := ⟨_, rfl⟩; rw [← hwy, ← hgw]; rw [← hwy, ← hgw] at HWY; have HD0 := Aside0.mk HWY.out.1; have HXW0 := Aside0.mk HWY.out.2.1; have HC0 := Aside0.mk HWY.out.2.2.1; have HB0 := Aside0.mk HWY.out.2.2.2; clear HWY hwy HXW HC HB hgw hlw; have d0 := HD0.out.cell8 0 (by rw [HWDL.out]; omega); have d1 := HD0.out.cell8 1 (by rw [HWDL.out]; omega); have d2 := HD0.out.cell8 2 (by rw [HWDL.out]; omega); have d3 := HD0.out.cell8 3 (by rw [HWDL.out]; omega)))
          go_loopg [52] 4 (fun gg s52 wx => ∃ k : Nat, k + gg = 4 ∧ s52 = .int .i64 k ∧ At wx gw 83 (b8s (fill x1 0 (subF x1) k)) ∧ At wx gW 89 (b8s W) ∧ At wx g 80 (b8s standCells) ∧ Below g w wx)
          case atStart => exact ⟨0, by omega, rfl, HD.out, HXW.out, HC.out, HB.out⟩
          case round =>
            obtain ⟨k, hkg, rfl, hd, hx, hc, hb⟩ := hrel
            have HD1 := Aside0.mk hd; have HXW1 := Aside0.mk hx; have HC1 := Aside0.mk hc; have HB1 := Aside0.mk hb
            clear hd hx hc hb HD HXW HC HB
            cases gk with
            | zero =>
              have hk4 : k = 4 := by omega
              subst hk4
              obtain ⟨x2, hx2⟩ : ∃ x2, x2 = fill x1 0 (subF x1) 4 := ⟨_, rfl⟩
              have hx2l : x2.length = 4 := by rw [hx2, fill_length, HX1L.out]
              have HX2 := Aside0.mk hx2; have HX2L := Aside0.mk hx2l
              have HD : Aside0 (At wr gw 83 (b8s x2)) := ⟨by rw [hx2]; exact HD1.out⟩
              have HXW := HXW1; have HC := HC1; have HB := HB1
              clear HD1 HXW1 HC1 HB1 hx2 hx2l hkg
              have c0 := HD.out.cell8 0 (by rw [HX2L.out]; omega)
              have f0 := HD.out.frozen 0
              go_wp2_with (go_at_call 67; (with_reducible refine (times2 _ _).mono ?_); rintro e w' ⟨rfl, rfl⟩)
              rw [u8x]
              clear c0 f0
              obtain ⟨x3, hx3⟩ : ∃ x3, x3 = x2.set 0 (gb x2 0 ^^^ pow ((i - 1) / 8)) := ⟨_, rfl⟩
              have HX3 : Aside0 (x3 = wordD W i) := ⟨by rw [hx3, wordD, if_pos h8i, wordC, if_pos (by omega), wordB, if_pos h8i, HX2.out, HX1.out, HWD.out]⟩
              have HX3L : Aside0 (x3.length = 4) := ⟨by rw [hx3, List.length_set, HX2L.out]⟩
              have HPW : Aside0 (times (pow ((i - 1) / 8)) 2 = pow ((i + 1 - 1) / 8)) := ⟨by rw [show (i + 1 - 1) / 8 = (i - 1) / 8 + 1 by omega, pow]⟩
              go_loopg [76] 4 (fun gg s76 wx => ∃ k : Nat, k + gg = 4 ∧ s76 = .int .i64 k ∧ At wx gw 83 (b8s x3) ∧ At wx gW 89 (b8s (fill W (i * 4) (nextF W i) k)) ∧ At wx g 80 (b8s standCells) ∧ Below g w wx)
              case atStart => exact ⟨0, by omega, rfl, by rw [hx3]; exact HD.out.set8 0 _, HXW.out.other _ _ (by simp; omega), HC.out.other _ _ (by simp; omega), HB.out.setCell (by simp; omega) _⟩
              case round =>
                obtain ⟨k, hkg, rfl, hd, hx, hc, hb⟩ := hrel
                clear HD HXW HC HB hx3
                have HD := Aside0.mk hd; have HXW := Aside0.mk hx; have HC := Aside0.mk hc; have HB := Aside0.mk hb
                clear hd hx hc hb
                cases gk with
                | zero =>
                  have hk4 : k = 4 := by omega
                  subst hk4
                  have HEX : Aside0 (fill W (i * 4) (nextF W i) 4 = ex kb (i + 1)) := ⟨by rw [ex, if_neg h8, HW.out]⟩
                  go_wp2
                  go_roundg go
                  case measure => omega
                  case rel => exact ⟨i + 1, by omega, by go_num, by rw [HPW.out], HC.out, by rw [← HEX.out]; exact HXW.out, HB.out⟩
                | succ gk =>
                  have hk4 : k < 4 := by omega
                  have k4 : (k : Int) < 4 := by omega
                  obtain ⟨m, hm⟩ : ∃ m, m = i - 8 := ⟨_, rfl⟩
                  have e1 : IntKind.i64.wrap ((i : Int) - 8) = (m : Int) := by
                    rw [show (i : Int) - 8 = (m : Int) by omega]
                    exact wrapi_of_bounds (by omega) (by omega)
                  have m60 : (m : Int) < 60 := by omega
                  have c1 := HXW.out.cell8 (m * 4 + k) (by rw [fill_length, HWL.out]; omega)
                  rw [fill_out _ _ _ _ _ (by omega)] at c1
                  have c2 := HD.out.cell8 k (by rw [HX3L.out]; exact hk4)
                  have c3 := HXW.out.cell8 (i * 4 + k) (by rw [fill_length, HWL.out]; omega)
                  have f1 := HXW.out.frozen (i * 4 + k)
                  have HNX : Aside0 (gb W (m * 4 + k) ^^^ gb x3 k = nextF W i k) := ⟨by rw [nextF, ← HX3.out, hm]⟩
                  clear hm
                  go_wp2
                  refine wp_region_still_tail 14 (by kernel_rfl) (by kernel_rfl) ?_
                  simp only [List.take_succ_cons, List.take_zero, List.drop_succ_cons, List.drop_zero]
                  iterate 14 still_step
                  refine wpStill_nil ?_
                  change wpList _ _ _ _ _ wr.drew
                  have c3' : wr.drew.cell? { block := gW, off := i * 4 + k } = some (Value.int IntKind.u8 ↑(gb (fill W (i * 4) (nextF W i) k) (i * 4 + k)).toNat) := c3
                  have f1' : wr.drew.frozen? { block := gW, off := i * 4 + k } = false := f1
                  clear c1 c2 c3 f1 e1
                  go_wp2
                  rw [u8x]
                  go_roundg gk
                  case measure => omega
                  case rel => exact ⟨k + 1, by omega, by go_num, (HD.out.other _ _ (by simp; omega)).drew, by have := HXW.out.drewSet8 (i * 4 + k) (nextF W i k); rw [fill, ← HNX.out] at *; exact this, (HC.out.other _ _ (by simp; omega)).drew, (HB.out.setCell (by simp; omega) _).drew⟩
            | succ gk =>
              have hk4 : k < 4 := by omega
              have k4 : (k : Int) < 4 := by omega
              have c1 := HD1.out.cell8 k (by rw [fill_length, HX1L.out]; exact hk4)
              rw [fill_out _ _ _ _ _ (by omega)] at c1
              have f1 := HD1.out.frozen k
              have hb := (gb x1 k).toNat_lt
              have hb' : ((gb x1 k).toNat : Int) < 256 := by omega
              have c2 := HC1.out.cell8 (240 + (gb x1 k).toNat) (by rw [standCells_length]; omega)
              go_wp2
              refine wp_region_still_tail 10 (by kernel_rfl) (by kernel_rfl) ?_
              simp only [List.take_succ_cons, List.take_zero, List.drop_succ_cons, List.drop_zero]
              iterate 10 still_step
              refine wpStill_nil ?_
              change wpList _ _ _ _ _ wr.drew
              have c1' : wr.drew.cell? { block := gw, off := k } = some (Value.int IntKind.u8 ↑(gb x1 k).toNat) := c1
              have f1' : wr.drew.frozen? { block := gw, off := k } = false := f1
              clear c1 c2 f1
              go_wp2
              go_roundg gk
              case measure => omega
              case rel => exact ⟨k + 1, by omega, by go_num, by have := HD1.out.drewSet8 k (subF x1 k); rw [fill, Nat.zero_add]; exact this, (HXW1.out.other _ _ (by simp; omega)).drew, (HC1.out.other _ _ (by simp; omega)).drew, (HB1.out.setCell (by simp; omega) _).drew⟩
        · by_cases h4i : i % 4 = 0
          · have hm8 : ((i : Int) % 8 == 0) = false := beq_eq_false_iff_ne.2 (by omega)
            have hm4 : ((i : Int) % 4 == 0) = true := beq_iff_eq.2 (by omega)
            obtain ⟨x1, hx1⟩ : ∃ x1, x1 = wd := ⟨_, rfl⟩
            have hx1l : x1.length = 4 := by rw [hx1]; exact HWDL.out
            have HX1 := Aside0.mk hx1
            have HX1L := Aside0.mk hx1l
            clear hx1l hx1
            go_wp2_with (first | ((with_reducible refine gate_dst (N := 36) rfl ?_); refine HXW.out.loadMid _ _ ((i - 1) * 4) 4 (by rw [HWL.out]; omega) rfl rfl rfl _ Try.underlying83 rfl info4 ?_; rw [show (W.drop ((i - 1) * 4)).take 4 = wd from HWD.out.symm]) | (refine (At.newAt (w := wr) (cs := b8s (List.replicate 4 0)) rfl).store _ _ _ (b8s wd) rfl rfl rfl rfl (by simp [HWDL.out]) (by rw [b8s_length, HWDL.out]; exact info4) (At.one8 wd) ?_; obtain ⟨wy, hwy⟩ : ∃ wy, wy = ((wr.alloc (Obj.cells (b8s (List.replicate 4 0)).toArray 83)).setRow wr.heap.size (b8s wd).toArray) := ⟨_, rfl⟩; rw [← hwy, ← hgw]; rw [← hwy, ← hgw] at HWY; have HD0 := Aside0.mk HWY.out.1; have HXW0 := Aside0.mk HWY.out.2.1; have HC0 := Aside0.mk HWY.out.2.2.1; have HB0 := Aside0.mk HWY.out.2.2.2; clear HWY hwy HXW HC HB hgw hlw))
            have HD : Aside0 (At wy gw 83 (b8s x1)) := ⟨by rw [HX1.out]; exact HD0.out⟩
            have HXW := HXW0; have HC := HC0; have HB := HB0
            clear HXW0 HC0 HB0 HD0
            go_loopg [52] 4 (fun gg s52 wx => ∃ k : Nat, k + gg = 4 ∧ s52 = .int .i64 k ∧ At wx gw 83 (b8s (fill x1 0 (subF x1) k)) ∧ At wx gW 89 (b8s W) ∧ At wx g 80 (b8s standCells) ∧ Below g w wx)
            case atStart => exact ⟨0, by omega, rfl, HD.out, HXW.out, HC.out, HB.out⟩
            case round =>
              obtain ⟨k, hkg, rfl, hd, hx, hc, hb⟩ := hrel
              have HD1 := Aside0.mk hd; have HXW1 := Aside0.mk hx; have HC1 := Aside0.mk hc; have HB1 := Aside0.mk hb
              clear hd hx hc hb HD HXW HC HB
              cases gk with
              | zero =>
                have hk4 : k = 4 := by omega
                subst hk4
                obtain ⟨x2, hx2⟩ : ∃ x2, x2 = fill x1 0 (subF x1) 4 := ⟨_, rfl⟩
                have hx2l : x2.length = 4 := by rw [hx2, fill_length, HX1L.out]
                have HX2 := Aside0.mk hx2; have HX2L := Aside0.mk hx2l
                have HD : Aside0 (At wr gw 83 (b8s x2)) := ⟨by rw [hx2]; exact HD1.out⟩
                have HXW := HXW1; have HC := HC1; have HB := HB1
                clear HD1 HXW1 HC1 HB1 hx2 hx2l hkg
                go_wp2
                obtain ⟨x3, hx3⟩ : ∃ x3, x3 = x2 := ⟨_, rfl⟩
                have HX3 : Aside0 (x3 = wordD W i) := ⟨by rw [hx3, wordD, if_neg h8i, wordC, if_pos h4i, wordB, if_neg h8i, HX2.out, HX1.out, HWD.out]⟩
                have HX3L : Aside0 (x3.length = 4) := ⟨by rw [hx3, HX2L.out]⟩
                have HPW : Aside0 (pow ((i - 1) / 8) = pow ((i + 1 - 1) / 8)) := ⟨by rw [show (i + 1 - 1) / 8 = (i - 1) / 8 by omega]⟩
                go_loopg [76] 4 (fun gg s76 wx => ∃ k : Nat, k + gg = 4 ∧ s76 = .int .i64 k ∧ At wx gw 83 (b8s x3) ∧ At wx gW 89 (b8s (fill W (i * 4) (nextF W i) k)) ∧ At wx g 80 (b8s standCells) ∧ Below g w wx)
                case atStart => exact ⟨0, by omega, rfl, by rw [hx3]; exact HD.out, HXW.out, HC.out, HB.out⟩
                case round =>
                  obtain ⟨k, hkg, rfl, hd, hx, hc, hb⟩ := hrel
                  clear HD HXW HC HB hx3
                  have HD := Aside0.mk hd; have HXW := Aside0.mk hx; have HC := Aside0.mk hc; have HB := Aside0.mk hb
                  clear hd hx hc hb
                  cases gk with
                  | zero =>
                    have hk4 : k = 4 := by omega
                    subst hk4
                    have HEX : Aside0 (fill W (i * 4) (nextF W i) 4 = ex kb (i + 1)) := ⟨by rw [ex, if_neg h8, HW.out]⟩
                    go_wp2
                    go_roundg go
                    case measure => omega
                    case rel => exact ⟨i + 1, by omega, by go_num, by rw [HPW.out], HC.out, by rw [← HEX.out]; exact HXW.out, HB.out⟩
                  | succ gk =>
                    have hk4 : k < 4 := by omega
                    have k4 : (k : Int) < 4 := by omega
                    obtain ⟨m, hm⟩ : ∃ m, m = i - 8 := ⟨_, rfl⟩
                    have e1 : IntKind.i64.wrap ((i : Int) - 8) = (m : Int) := by
                      rw [show (i : Int) - 8 = (m : Int) by omega]
                      exact wrapi_of_bounds (by omega) (by omega)
                    have m60 : (m : Int) < 60 := by omega
                    have c1 := HXW.out.cell8 (m * 4 + k) (by rw [fill_length, HWL.out]; omega)
                    rw [fill_out _ _ _ _ _ (by omega)] at c1
                    have c2 := HD.out.cell8 k (by rw [HX3L.out]; exact hk4)
                    have c3 := HXW.out.cell8 (i * 4 + k) (by rw [fill_length, HWL.out]; omega)
                    have f1 := HXW.out.frozen (i * 4 + k)
                    have HNX : Aside0 (gb W (m * 4 + k) ^^^ gb x3 k = nextF W i k) := ⟨by rw [nextF, ← HX3.out, hm]⟩
                    clear hm
                    go_wp2
                    refine wp_region_still_tail 14 (by kernel_rfl) (by kernel_rfl) ?_
                    simp only [List.take_succ_cons, List.take_zero, List.drop_succ_cons, List.drop_zero]
                    iterate 14 still_step
                    refine wpStill_nil ?_
                    change wpList _ _ _ _ _ wr.drew
                    have c3' : wr.drew.cell? { block := gW, off := i * 4 + k } = some (Value.int IntKind.u8 ↑(gb (fill W (i * 4) (nextF W i) k) (i * 4 + k)).toNat) := c3
                    have f1' : wr.drew.frozen? { block := gW, off := i * 4 + k } = false := f1
                    clear c1 c2 c3 f1 e1
                    go_wp2
                    rw [u8x]
                    go_roundg gk
                    case measure => omega
                    case rel => exact ⟨k + 1, by omega, by go_num, (HD.out.other _ _ (by simp; omega)).drew, by have := HXW.out.drewSet8 (i * 4 + k) (nextF W i k); rw [fill, ← HNX.out] at *; exact this, (HC.out.other _ _ (by simp; omega)).drew, (HB.out.setCell (by simp; omega) _).drew⟩
              | succ gk =>
                have hk4 : k < 4 := by omega
                have k4 : (k : Int) < 4 := by omega
                have c1 := HD1.out.cell8 k (by rw [fill_length, HX1L.out]; exact hk4)
                rw [fill_out _ _ _ _ _ (by omega)] at c1
                have f1 := HD1.out.frozen k
                have hb := (gb x1 k).toNat_lt
                have hb' : ((gb x1 k).toNat : Int) < 256 := by omega
                have c2 := HC1.out.cell8 (240 + (gb x1 k).toNat) (by rw [standCells_length]; omega)
                go_wp2
                refine wp_region_still_tail 10 (by kernel_rfl) (by kernel_rfl) ?_
                simp only [List.take_succ_cons, List.take_zero, List.drop_succ_cons, List.drop_zero]
                iterate 10 still_step
                refine wpStill_nil ?_
                change wpList _ _ _ _ _ wr.drew
                have c1' : wr.drew.cell? { block := gw, off := k } = some (Value.int IntKind.u8 ↑(gb x1 k).toNat) := c1
                have f1' : wr.drew.frozen? { block := gw, off := k } = false := f1
                clear c1 c2 f1
                go_wp2
                go_roundg gk
                case measure => omega
                case rel => exact ⟨k + 1, by omega, by go_num, by have := HD1.out.drewSet8 k (subF x1 k); rw [fill, Nat.zero_add]; exact this, (HXW1.out.other _ _ (by simp; omega)).drew, (HC1.out.other _ _ (by simp; omega)).drew, (HB1.out.setCell (by simp; omega) _).drew⟩
          · have hm8 : ((i : Int) % 8 == 0) = false := beq_eq_false_iff_ne.2 (by omega)
            have hm4 : ((i : Int) % 4 == 0) = false := beq_eq_false_iff_ne.2 (by omega)
            obtain ⟨x1, hx1⟩ : ∃ x1, x1 = wd := ⟨_, rfl⟩
            have hx1l : x1.length = 4 := by rw [hx1]; exact HWDL.out
            have HX1 := Aside0.mk hx1
            have HX1L := Aside0.mk hx1l
            clear hx1l hx1
            go_wp2_with (first | ((with_reducible refine gate_dst (N := 36) rfl ?_); refine HXW.out.loadMid _ _ ((i - 1) * 4) 4 (by rw [HWL.out]; omega) rfl rfl rfl _ Try.underlying83 rfl info4 ?_; rw [show (W.drop ((i - 1) * 4)).take 4 = wd from HWD.out.symm]) | (refine (At.newAt (w := wr) (cs := b8s (List.replicate 4 0)) rfl).store _ _ _ (b8s wd) rfl rfl rfl rfl (by simp [HWDL.out]) (by rw [b8s_length, HWDL.out]; exact info4) (At.one8 wd) ?_; obtain ⟨wy, hwy⟩ : ∃ wy, wy = ((wr.alloc (Obj.cells (b8s (List.replicate 4 0)).toArray 83)).setRow wr.heap.size (b8s wd).toArray) := ⟨_, rfl⟩; rw [← hwy, ← hgw]; rw [← hwy, ← hgw] at HWY; have HD0 := Aside0.mk HWY.out.1; have HXW0 := Aside0.mk HWY.out.2.1; have HC0 := Aside0.mk HWY.out.2.2.1; have HB0 := Aside0.mk HWY.out.2.2.2; clear HWY hwy HXW HC HB hgw hlw))
            have HD : Aside0 (At wy gw 83 (b8s x1)) := ⟨by rw [HX1.out]; exact HD0.out⟩
            have HXW := HXW0; have HC := HC0; have HB := HB0
            clear HXW0 HC0 HB0 HD0
            obtain ⟨x3, hx3⟩ : ∃ x3, x3 = x1 := ⟨_, rfl⟩
            have HX3 : Aside0 (x3 = wordD W i) := ⟨by rw [hx3, wordD, if_neg h8i, wordC, if_neg h4i, wordB, if_neg h8i, HX1.out, HWD.out]⟩
            have HX3L : Aside0 (x3.length = 4) := ⟨by rw [hx3, HX1L.out]⟩
            have HPW : Aside0 (pow ((i - 1) / 8) = pow ((i + 1 - 1) / 8)) := ⟨by rw [show (i + 1 - 1) / 8 = (i - 1) / 8 by omega]⟩
            go_loopg [76] 4 (fun gg s76 wx => ∃ k : Nat, k + gg = 4 ∧ s76 = .int .i64 k ∧ At wx gw 83 (b8s x3) ∧ At wx gW 89 (b8s (fill W (i * 4) (nextF W i) k)) ∧ At wx g 80 (b8s standCells) ∧ Below g w wx)
            case atStart => exact ⟨0, by omega, rfl, by rw [hx3]; exact HD.out, HXW.out, HC.out, HB.out⟩
            case round =>
              obtain ⟨k, hkg, rfl, hd, hx, hc, hb⟩ := hrel
              clear HD HXW HC HB hx3
              have HD := Aside0.mk hd; have HXW := Aside0.mk hx; have HC := Aside0.mk hc; have HB := Aside0.mk hb
              clear hd hx hc hb
              cases gk with
              | zero =>
                have hk4 : k = 4 := by omega
                subst hk4
                have HEX : Aside0 (fill W (i * 4) (nextF W i) 4 = ex kb (i + 1)) := ⟨by rw [ex, if_neg h8, HW.out]⟩
                go_wp2
                go_roundg go
                case measure => omega
                case rel => exact ⟨i + 1, by omega, by go_num, by rw [HPW.out], HC.out, by rw [← HEX.out]; exact HXW.out, HB.out⟩
              | succ gk =>
                have hk4 : k < 4 := by omega
                have k4 : (k : Int) < 4 := by omega
                obtain ⟨m, hm⟩ : ∃ m, m = i - 8 := ⟨_, rfl⟩
                have e1 : IntKind.i64.wrap ((i : Int) - 8) = (m : Int) := by
                  rw [show (i : Int) - 8 = (m : Int) by omega]
                  exact wrapi_of_bounds (by omega) (by omega)
                have m60 : (m : Int) < 60 := by omega
                have c1 := HXW.out.cell8 (m * 4 + k) (by rw [fill_length, HWL.out]; omega)
                rw [fill_out _ _ _ _ _ (by omega)] at c1
                have c2 := HD.out.cell8 k (by rw [HX3L.out]; exact hk4)
                have c3 := HXW.out.cell8 (i * 4 + k) (by rw [fill_length, HWL.out]; omega)
                have f1 := HXW.out.frozen (i * 4 + k)
                have HNX : Aside0 (gb W (m * 4 + k) ^^^ gb x3 k = nextF W i k) := ⟨by rw [nextF, ← HX3.out, hm]⟩
                clear hm
                go_wp2
                refine wp_region_still_tail 14 (by kernel_rfl) (by kernel_rfl) ?_
                simp only [List.take_succ_cons, List.take_zero, List.drop_succ_cons, List.drop_zero]
                iterate 14 still_step
                refine wpStill_nil ?_
                change wpList _ _ _ _ _ wr.drew
                have c3' : wr.drew.cell? { block := gW, off := i * 4 + k } = some (Value.int IntKind.u8 ↑(gb (fill W (i * 4) (nextF W i) k) (i * 4 + k)).toNat) := c3
                have f1' : wr.drew.frozen? { block := gW, off := i * 4 + k } = false := f1
                clear c1 c2 c3 f1 e1
                go_wp2
                rw [u8x]
                go_roundg gk
                case measure => omega
                case rel => exact ⟨k + 1, by omega, by go_num, (HD.out.other _ _ (by simp; omega)).drew, by have := HXW.out.drewSet8 (i * 4 + k) (nextF W i k); rw [fill, ← HNX.out] at *; exact this, (HC.out.other _ _ (by simp; omega)).drew, (HB.out.setCell (by simp; omega) _).drew⟩
end Go.Proofs.Ytdegeodegjmddaa.Given
