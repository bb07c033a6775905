/- Contracts of AES' rounds. Conditions: a cipher of 752 bytes lies in memory. -/
import Derived.Test.YtdegeodegjmddaaZAesQ1
namespace Go.Proofs.Ytdegeodegjmddaa.Given
open Go.RowKit Go.Proofs.YtdegeodegjmddaaW.PrintWords Go.Proofs.YtdegeodegjmddaaW.PrintLast Go.Proofs.YtdegeodegjmddaaW.PrintMore
open Go.Proofs.Ytdegeodegjmddaa.Row Go.Proofs.Ytdegeodegjmddaa.Aes Go.Proofs.Ytdegeodegjmddaa.Row.At
set_option maxRecDepth 100000
set_option linter.unusedVariables false
set_option linter.unusedSimpArgs false
attribute [-simp] Try.isAgg80 Try.isAgg75 Try.isAgg78 Try.isAgg83 Try.isAgg77
theorem infoT : (Try.prog.info? 78).map (·.size) = some 256 := by kernel_rfl

/-- What a round of a cipher keeps as it goes: its block, its result, the cipher, the pointer to it. -/
structure Rnd (w wx : World) (g gc : Nat) (C s z : List UInt8) : Prop where
  box : At wx w.heap.size 75 (b8s s)
  res : At wx (w.heap.size + 1) 75 (b8s z)
  ptr : At wx gc 49 [.pointer (some ⟨g, 0, none⟩)]
  cip : At wx g 80 (b8s C)
  bel : Below w.heap.size w wx
  gc1 : gc < w.heap.size
  g1 : g < w.heap.size
namespace Rnd
variable {w wx w2 : World} {g gc : Nat} {C s z : List UInt8}
theorem call (h : Rnd w wx g gc C s z) (hb : Below wx.heap.size wx w2) : Rnd w w2 g gc C s z :=
  ⟨h.box.below hb h.box.lt, h.res.below hb h.res.lt, h.ptr.below hb h.ptr.lt, h.cip.below hb h.cip.lt, h.bel.trans (hb.mono h.bel.size), h.gc1, h.g1⟩
theorem drew (h : Rnd w wx g gc C s z) : Rnd w wx.drew g gc C s z := ⟨h.box.drew, h.res.drew, h.ptr.drew, h.cip.drew, h.bel.drew, h.gc1, h.g1⟩
theorem setBox (h : Rnd w wx g gc C s z) (s' : List UInt8) : Rnd w (wx.setRow w.heap.size (b8s s').toArray) g gc C s' z :=
  ⟨h.box.setRow _, h.res.setRow_other _ _ (by omega), h.ptr.setRow_other _ _ (by have := h.gc1; omega), h.cip.setRow_other _ _ (by have := h.g1; omega), row_below h.bel (Nat.le_refl _) _, h.gc1, h.g1⟩
theorem setRes (h : Rnd w wx g gc C s z) (z' : List UInt8) : Rnd w (wx.setRow (w.heap.size + 1) (b8s z').toArray) g gc C s z' :=
  ⟨h.box.setRow_other _ _ (by omega), h.res.setRow _, h.ptr.setRow_other _ _ (by have := h.gc1; omega), h.cip.setRow_other _ _ (by have := h.g1; omega), row_below h.bel (by omega) _, h.gc1, h.g1⟩
theorem cast (h : Rnd w wx g gc C s z) {s' : List UInt8} (e : s' = s) : Rnd w wx g gc C s' z := by rw [e]; exact h
end Rnd
theorem rnd_start {w : World} {g gc : Nat} {C s : List UInt8} (h1 : At w gc 49 [.pointer (some ⟨g, 0, none⟩)]) (h2 : At w g 80 (b8s C)) :
    Rnd w ((w.alloc (.cells (b8s s).toArray 75 (0, 0))).alloc (.cells #[.int .u8 0, .int .u8 0, .int .u8 0, .int .u8 0, .int .u8 0, .int .u8 0, .int .u8 0, .int .u8 0, .int .u8 0, .int .u8 0, .int .u8 0, .int .u8 0, .int .u8 0, .int .u8 0, .int .u8 0, .int .u8 0] 75 (0, 0))) g gc C s (List.replicate 16 0) :=
  ⟨(At.newAt rfl).alloc _, At.zeros (by simp), (h1.alloc _).alloc _, (h2.alloc _).alloc _, ((Below.refl _ w).alloc (Nat.le_refl _) _).alloc (by simp) _, h1.lt, h2.lt⟩
set_option maxHeartbeats 1000000 in
set_option maxRecDepth 100000 in
theorem encR_any (C s : List UInt8) (n : Nat) (hC : C.length = 752) (hs : s.length = 16) (hn : n < 15) (g gc : Nat) (w : World) (h1 : At w gc 49 [.pointer (some ⟨g, 0, none⟩)]) (h2 : At w g 80 (b8s C)) :
    Calls Try.prog 52 #[.agg (b8s s).toArray, .int .i64 n, .pointer (some ⟨gc, 0, none⟩)] w fun e w' => e = .returned (.agg (b8s (encRound C s n)).toArray) ∧ Below w.heap.size w w' := by
  have HR := Aside0.mk (rnd_start (s := s) h1 h2)
  have HS := Aside0.mk hs
  have HCL := Aside0.mk hC
  have HN := Aside0.mk hn
  clear h1 h2 hs hC hn
  go_enter Try.func52, Try.ntmps52
  have hnn := HN.out
  rcases (show n = 0 ∨ (0 < n ∧ n < 14) ∨ n = 14 by omega) with hw | hw | hw
  · clear hnn
    have b0 : decide ((n : Int) > 0) = false := decide_eq_false (by omega)
    have b0' : decide (0 < (n : Int)) = false := decide_eq_false (by omega)
    have b14 : decide ((n : Int) < 14) = true := decide_eq_true (by omega)
    have b15 : (n : Int) < 15 := by have := HN.out; omega
    have p0 : (n : Int) ≤ 0 := by omega
    have p14 : (n : Int) < 14 := by omega
    have HW := Aside0.mk hw
    clear hw
    go_wp2
    have HL : Aside0 (s.length = 16) := HS
    have HS1 : Aside0 (s = encMix C s n) := ⟨by rw [encMix, if_pos (by have := HW.out; omega)]⟩
    clear HL
    obtain ⟨s2, hs2⟩ : ∃ s2, s2 = s := ⟨_, rfl⟩
    have n1 := Aside0.mk (HR.out.cast hs2)
    clear HR
    have HR := n1
    clear n1
    have HS2 : Aside0 (s2 = encCol (encMix C s n) n) := ⟨by rw [hs2, ← HS1.out, encCol, if_pos (by have := HW.out; omega)]⟩
    clear hs2
    have HL : Aside0 (s2.length = 16) := ⟨by rw [HS2.out]; exact encCol_length _ _ (encMix_length _ _ _ HS.out)⟩
    have hgc := HR.out.drew.ptr.cell 0 _ rfl
    refine wp_region_still_tail 7 (by kernel_rfl) (by kernel_rfl) ?_
    simp only [List.take_succ_cons, List.take_zero, List.drop_succ_cons, List.drop_zero]
    refine HR.out.drew.box.stillLoad0 _ _ rfl rfl rfl _ Try.underlying75 rfl (by rw [HL.out]; exact infoS) ?_
    still_step
    still_step
    still_step
    still_step
    still_step
    refine HR.out.drew.cip.stillLoad _ _ (n * 16) 16 (by rw [HCL.out]; have := HN.out; omega) rfl rfl rfl _ Try.underlying75 rfl infoS ?_
    rw [show (C.drop (n * 16)).take 16 = rkey C n from rfl]
    refine wpStill_nil ?_
    change wpList _ _ _ _ _ (World.drew _)
    have n1 := Aside0.mk HR.out.drew
    clear HR hgc
    have HR := n1
    clear n1
    have hkl := rkey_length C HCL.out n HN.out
    have HKL := Aside0.mk hkl
    clear hkl
    go_wp2_with (first | (go_at_call 56; (refine (with_any s2 (rkey C n) HL.out HKL.out _).mono ?_); rintro e w2 ⟨rfl, hb⟩; have n1 := Aside0.mk (HR.out.call hb); clear HR hb; have HR := n1; clear n1) | (refine HR.out.res.store _ _ _ (b8s (withL s2 (rkey C n))) rfl rfl rfl rfl (by rw [b8s_length, b8s_length, show (withL s2 (rkey C n)).length = 16 from mk16_length _]; exact (List.length_replicate)) (by rw [b8s_length, show (withL s2 (rkey C n)).length = 16 from mk16_length _]; exact infoS) (At.one8 _) ?_; have n1 := Aside0.mk (HR.out.setRes (withL s2 (rkey C n))); clear HR; have HR := n1; clear n1))
    refine bodyPost_ret (HR.out.res.ret rfl _ _ rfl Try.underlying75 rfl (by rw [b8s_length, show (withL s2 (rkey C n)).length = 16 from mk16_length _]; exact infoS)) rfl ⟨by rw [encRound, ← HS2.out], HR.out.bel⟩
  · clear hnn
    have b0 : decide ((n : Int) > 0) = true := decide_eq_true (by omega)
    have b0' : decide (0 < (n : Int)) = true := decide_eq_true (by omega)
    have b14 : decide ((n : Int) < 14) = true := decide_eq_true (by omega)
    have b15 : (n : Int) < 15 := by have := HN.out; omega
    have p0 : 0 < (n : Int) := by omega
    have p14 : (n : Int) < 14 := by omega
    have HW := Aside0.mk hw
    clear hw
    go_wp2
    have HL : Aside0 (s.length = 16) := HS
    have hgc := HR.out.drew.ptr.cell 0 _ rfl
    refine wp_region_still_tail 5 (by kernel_rfl) (by kernel_rfl) ?_
    simp only [List.take_succ_cons, List.take_zero, List.drop_succ_cons, List.drop_zero]
    refine HR.out.drew.box.stillLoad0 _ _ rfl rfl rfl _ Try.underlying75 rfl (by rw [HL.out]; exact infoS) ?_
    still_step
    still_step
    still_step
    refine HR.out.drew.cip.stillLoad _ _ 240 256 (by rw [HCL.out]; omega) rfl rfl rfl _ Try.underlying78 rfl infoT ?_
    rw [show (C.drop 240).take 256 = toT C from rfl]
    refine wpStill_nil ?_
    change wpList _ _ _ _ _ (World.drew _)
    have n1 := Aside0.mk HR.out.drew
    clear HR hgc
    have HR := n1
    clear n1
    go_wp2_with (first | (go_at_call 53; (refine (swapped_any s (toT C) HS.out (toT_length C HCL.out) _).mono ?_); rintro e w2 ⟨rfl, hb⟩; have n1 := Aside0.mk (HR.out.call hb); clear HR hb; have HR := n1; clear n1) | (go_at_call 54; (refine (rows_any (swapL s (toT C)) 1 (mk16_length _) (.inl rfl) _).mono ?_); rintro e w2 ⟨rfl, hb⟩; have n1 := Aside0.mk (HR.out.call hb); clear HR hb; have HR := n1; clear n1) | ((with_reducible refine gate_dst (N := 21) rfl ?_); refine HR.out.box.load _ _ rfl rfl rfl _ Try.underlying75 rfl (by rw [b8s_length, show (rowL (swapL s (toT C)) 1).length = 16 from mk16_length _]; exact infoS) ?_) | (go_at_call 55; (refine (columns_any (rowL (swapL s (toT C)) 1) [2, 3, 1, 1] (mk16_length _) rfl _).mono ?_); rintro e w2 ⟨rfl, hb⟩; have n1 := Aside0.mk (HR.out.call hb); clear HR hb; have HR := n1; clear n1) | (refine HR.out.box.store _ _ _ (b8s (colL (rowL (swapL s (toT C)) 1) [2, 3, 1, 1])) rfl rfl rfl rfl (by rw [b8s_length, b8s_length, show (colL (rowL (swapL s (toT C)) 1) [2, 3, 1, 1]).length = 16 from mk16_length _]; exact (show (rowL (swapL s (toT C)) 1).length = 16 from mk16_length _)) (by rw [b8s_length, show (colL (rowL (swapL s (toT C)) 1) [2, 3, 1, 1]).length = 16 from mk16_length _]; exact infoS) (At.one8 _) ?_; have n1 := Aside0.mk (HR.out.setBox (colL (rowL (swapL s (toT C)) 1) [2, 3, 1, 1])); clear HR; have HR := n1; clear n1) | (refine HR.out.box.store _ _ _ (b8s (rowL (swapL s (toT C)) 1)) rfl rfl rfl rfl (by rw [b8s_length, b8s_length, show (rowL (swapL s (toT C)) 1).length = 16 from mk16_length _]; exact (HL.out)) (by rw [b8s_length, show (rowL (swapL s (toT C)) 1).length = 16 from mk16_length _]; exact infoS) (At.one8 _) ?_; have n1 := Aside0.mk (HR.out.setBox (rowL (swapL s (toT C)) 1)); clear HR; have HR := n1; clear n1))
    have HS1 : Aside0 ((rowL (swapL s (toT C)) 1) = encMix C s n) := ⟨by rw [encMix, if_neg (by have := HW.out; omega)]⟩
    clear HL
    obtain ⟨s2, hs2⟩ : ∃ s2, s2 = (colL (rowL (swapL s (toT C)) 1) [2, 3, 1, 1]) := ⟨_, rfl⟩
    have n1 := Aside0.mk (HR.out.cast hs2)
    clear HR
    have HR := n1
    clear n1
    have HS2 : Aside0 (s2 = encCol (encMix C s n) n) := ⟨by rw [hs2, ← HS1.out, encCol, if_neg (by have := HW.out; omega)]⟩
    clear hs2
    have HL : Aside0 (s2.length = 16) := ⟨by rw [HS2.out]; exact encCol_length _ _ (encMix_length _ _ _ HS.out)⟩
    have hgc := HR.out.drew.ptr.cell 0 _ rfl
    refine wp_region_still_tail 7 (by kernel_rfl) (by kernel_rfl) ?_
    simp only [List.take_succ_cons, List.take_zero, List.drop_succ_cons, List.drop_zero]
    refine HR.out.drew.box.stillLoad0 _ _ rfl rfl rfl _ Try.underlying75 rfl (by rw [HL.out]; exact infoS) ?_
    still_step
    still_step
    still_step
    still_step
    still_step
    refine HR.out.drew.cip.stillLoad _ _ (n * 16) 16 (by rw [HCL.out]; have := HN.out; omega) rfl rfl rfl _ Try.underlying75 rfl infoS ?_
    rw [show (C.drop (n * 16)).take 16 = rkey C n from rfl]
    refine wpStill_nil ?_
    change wpList _ _ _ _ _ (World.drew _)
    have n1 := Aside0.mk HR.out.drew
    clear HR hgc
    have HR := n1
    clear n1
    have hkl := rkey_length C HCL.out n HN.out
    have HKL := Aside0.mk hkl
    clear hkl
    go_wp2_with (first | (go_at_call 56; (refine (with_any s2 (rkey C n) HL.out HKL.out _).mono ?_); rintro e w2 ⟨rfl, hb⟩; have n1 := Aside0.mk (HR.out.call hb); clear HR hb; have HR := n1; clear n1) | (refine HR.out.res.store _ _ _ (b8s (withL s2 (rkey C n))) rfl rfl rfl rfl (by rw [b8s_length, b8s_length, show (withL s2 (rkey C n)).length = 16 from mk16_length _]; exact (List.length_replicate)) (by rw [b8s_length, show (withL s2 (rkey C n)).length = 16 from mk16_length _]; exact infoS) (At.one8 _) ?_; have n1 := Aside0.mk (HR.out.setRes (withL s2 (rkey C n))); clear HR; have HR := n1; clear n1))
    refine bodyPost_ret (HR.out.res.ret rfl _ _ rfl Try.underlying75 rfl (by rw [b8s_length, show (withL s2 (rkey C n)).length = 16 from mk16_length _]; exact infoS)) rfl ⟨by rw [encRound, ← HS2.out], HR.out.bel⟩
  · clear hnn
    have b0 : decide ((n : Int) > 0) = true := decide_eq_true (by omega)
    have b0' : decide (0 < (n : Int)) = true := decide_eq_true (by omega)
    have b14 : decide ((n : Int) < 14) = false := decide_eq_false (by omega)
    have b15 : (n : Int) < 15 := by have := HN.out; omega
    have p0 : 0 < (n : Int) := by omega
    have p14 : 14 ≤ (n : Int) := by omega
    have HW := Aside0.mk hw
    clear hw
    go_wp2
    have HL : Aside0 (s.length = 16) := HS
    have hgc := HR.out.drew.ptr.cell 0 _ rfl
    refine wp_region_still_tail 5 (by kernel_rfl) (by kernel_rfl) ?_
    simp only [List.take_succ_cons, List.take_zero, List.drop_succ_cons, List.drop_zero]
    refine HR.out.drew.box.stillLoad0 _ _ rfl rfl rfl _ Try.underlying75 rfl (by rw [HL.out]; exact infoS) ?_
    still_step
    still_step
    still_step
    refine HR.out.drew.cip.stillLoad _ _ 240 256 (by rw [HCL.out]; omega) rfl rfl rfl _ Try.underlying78 rfl infoT ?_
    rw [show (C.drop 240).take 256 = toT C from rfl]
    refine wpStill_nil ?_
    change wpList _ _ _ _ _ (World.drew _)
    have n1 := Aside0.mk HR.out.drew
    clear HR hgc
    have HR := n1
    clear n1
    go_wp2_with (first | (go_at_call 53; (refine (swapped_any s (toT C) HS.out (toT_length C HCL.out) _).mono ?_); rintro e w2 ⟨rfl, hb⟩; have n1 := Aside0.mk (HR.out.call hb); clear HR hb; have HR := n1; clear n1) | (go_at_call 54; (refine (rows_any (swapL s (toT C)) 1 (mk16_length _) (.inl rfl) _).mono ?_); rintro e w2 ⟨rfl, hb⟩; have n1 := Aside0.mk (HR.out.call hb); clear HR hb; have HR := n1; clear n1) | (refine HR.out.box.store _ _ _ (b8s (rowL (swapL s (toT C)) 1)) rfl rfl rfl rfl (by rw [b8s_length, b8s_length, show (rowL (swapL s (toT C)) 1).length = 16 from mk16_length _]; exact (HL.out)) (by rw [b8s_length, show (rowL (swapL s (toT C)) 1).length = 16 from mk16_length _]; exact infoS) (At.one8 _) ?_; have n1 := Aside0.mk (HR.out.setBox (rowL (swapL s (toT C)) 1)); clear HR; have HR := n1; clear n1))
    have HS1 : Aside0 ((rowL (swapL s (toT C)) 1) = encMix C s n) := ⟨by rw [encMix, if_neg (by have := HW.out; omega)]⟩
    clear HL
    obtain ⟨s2, hs2⟩ : ∃ s2, s2 = (rowL (swapL s (toT C)) 1) := ⟨_, rfl⟩
    have n1 := Aside0.mk (HR.out.cast hs2)
    clear HR
    have HR := n1
    clear n1
    have HS2 : Aside0 (s2 = encCol (encMix C s n) n) := ⟨by rw [hs2, ← HS1.out, encCol, if_pos (by have := HW.out; omega)]⟩
    clear hs2
    have HL : Aside0 (s2.length = 16) := ⟨by rw [HS2.out]; exact encCol_length _ _ (encMix_length _ _ _ HS.out)⟩
    have hgc := HR.out.drew.ptr.cell 0 _ rfl
    refine wp_region_still_tail 7 (by kernel_rfl) (by kernel_rfl) ?_
    simp only [List.take_succ_cons, List.take_zero, List.drop_succ_cons, List.drop_zero]
    refine HR.out.drew.box.stillLoad0 _ _ rfl rfl rfl _ Try.underlying75 rfl (by rw [HL.out]; exact infoS) ?_
    still_step
    still_step
    still_step
    still_step
    still_step
    refine HR.out.drew.cip.stillLoad _ _ (n * 16) 16 (by rw [HCL.out]; have := HN.out; omega) rfl rfl rfl _ Try.underlying75 rfl infoS ?_
    rw [show (C.drop (n * 16)).take 16 = rkey C n from rfl]
    refine wpStill_nil ?_
    change wpList _ _ _ _ _ (World.drew _)
    have n1 := Aside0.mk HR.out.drew
    clear HR hgc
    have HR := n1
    clear n1
    have hkl := rkey_length C HCL.out n HN.out
    have HKL := Aside0.mk hkl
    clear hkl
    go_wp2_with (first | (go_at_call 56; (refine (with_any s2 (rkey C n) HL.out HKL.out _).mono ?_); rintro e w2 ⟨rfl, hb⟩; have n1 := Aside0.mk (HR.out.call hb); clear HR hb; have HR := n1; clear n1) | (refine HR.out.res.store _ _ _ (b8s (withL s2 (rkey C n))) rfl rfl rfl rfl (by rw [b8s_length, b8s_length, show (withL s2 (rkey C n)).length = 16 from mk16_length _]; exact (List.length_replicate)) (by rw [b8s_length, show (withL s2 (rkey C n)).length = 16 from mk16_length _]; exact infoS) (At.one8 _) ?_; have n1 := Aside0.mk (HR.out.setRes (withL s2 (rkey C n))); clear HR; have HR := n1; clear n1))
    refine bodyPost_ret (HR.out.res.ret rfl _ _ rfl Try.underlying75 rfl (by rw [b8s_length, show (withL s2 (rkey C n)).length = 16 from mk16_length _]; exact infoS)) rfl ⟨by rw [encRound, ← HS2.out], HR.out.bel⟩
set_option maxHeartbeats 1000000 in
set_option maxRecDepth 100000 in
theorem decR_any (C s : List UInt8) (n : Nat) (hC : C.length = 752) (hs : s.length = 16) (hn : n < 15) (g gc : Nat) (w : World) (h1 : At w gc 49 [.pointer (some ⟨g, 0, none⟩)]) (h2 : At w g 80 (b8s C)) :
    Calls Try.prog 59 #[.agg (b8s s).toArray, .int .i64 n, .pointer (some ⟨gc, 0, none⟩)] w fun e w' => e = .returned (.agg (b8s (decRound C s n)).toArray) ∧ Below w.heap.size w w' := by
  have HR := Aside0.mk (rnd_start (s := s) h1 h2)
  have HS := Aside0.mk hs
  have HCL := Aside0.mk hC
  have HN := Aside0.mk hn
  clear h1 h2 hs hC hn
  go_enter Try.func59, Try.ntmps59
  obtain ⟨m, hm⟩ : ∃ m, m = 14 - n := ⟨_, rfl⟩
  have HM : Aside0 (m = 14 - n ∧ m < 15) := ⟨hm, by omega⟩
  have hn14 := HN.out
  rcases (show m = 0 ∨ (0 < m ∧ m < 14) ∨ m = 14 by omega) with hw | hw | hw
  · have b0 : decide ((m : Int) > 0) = false := decide_eq_false (by omega)
    have b1 : decide (0 < (m : Int)) = false := decide_eq_false (by omega)
    have b2 : decide ((m : Int) < 14) = true := decide_eq_true (by omega)
    have p0 : (m : Int) ≤ 0 := by omega
    have p14 : (m : Int) < 14 := by omega
    have b15 : (m : Int) < 15 := by omega
    have em : (14 : Int) - (n : Int) = (m : Int) := by omega
    have HW := Aside0.mk hw
    clear hw hm hn14
    go_wp2
    have hgc := HR.out.drew.ptr.cell 0 _ rfl
    refine wp_region_still_tail 7 (by kernel_rfl) (by kernel_rfl) ?_
    simp only [List.take_succ_cons, List.take_zero, List.drop_succ_cons, List.drop_zero]
    refine HR.out.drew.box.stillLoad0 _ _ rfl rfl rfl _ Try.underlying75 rfl (by rw [HS.out]; exact infoS) ?_
    still_step
    still_step
    still_step
    still_step
    still_step
    refine HR.out.drew.cip.stillLoad _ _ (m * 16) 16 (by rw [HCL.out]; have := HM.out; omega) rfl rfl rfl _ Try.underlying75 rfl infoS ?_
    rw [show (C.drop (m * 16)).take 16 = rkey C m from rfl]
    refine wpStill_nil ?_
    change wpList _ _ _ _ _ (World.drew _)
    have n1 := Aside0.mk HR.out.drew
    clear HR hgc
    have HR := n1
    clear n1
    have HKL := Aside0.mk (rkey_length C HCL.out m (by have := HM.out; omega))
    go_wp2_with (first | (go_at_call 56; (refine (with_any s (rkey C m) HS.out HKL.out _).mono ?_); rintro e w2 ⟨rfl, hb⟩; have n1 := Aside0.mk (HR.out.call hb); clear HR hb; have HR := n1; clear n1) | ((with_reducible refine gate_dst (N := 34) rfl ?_); refine HR.out.box.load _ _ rfl rfl rfl _ Try.underlying75 rfl (by rw [b8s_length, show (withL s (rkey C m)).length = 16 from mk16_length _]; exact infoS) ?_) | (refine HR.out.res.store _ _ _ (b8s (withL s (rkey C m))) rfl rfl rfl rfl (by rw [b8s_length, b8s_length, show (withL s (rkey C m)).length = 16 from mk16_length _]; exact (List.length_replicate)) (by rw [b8s_length, show (withL s (rkey C m)).length = 16 from mk16_length _]; exact infoS) (At.one8 _) ?_; have n1 := Aside0.mk (HR.out.setRes (withL s (rkey C m))); clear HR; have HR := n1; clear n1) | (refine HR.out.box.store _ _ _ (b8s (withL s (rkey C m))) rfl rfl rfl rfl (by rw [b8s_length, b8s_length, show (withL s (rkey C m)).length = 16 from mk16_length _]; exact (HS.out)) (by rw [b8s_length, show (withL s (rkey C m)).length = 16 from mk16_length _]; exact infoS) (At.one8 _) ?_; have n1 := Aside0.mk (HR.out.setBox (withL s (rkey C m))); clear HR; have HR := n1; clear n1))
    have HS1 : Aside0 ((withL s (rkey C m)) = decCol (withL s (rkey C m)) m) := ⟨by rw [decCol, if_pos (by have := HW.out; omega)]⟩
    refine bodyPost_ret (HR.out.res.ret rfl _ _ rfl Try.underlying75 rfl (by rw [b8s_length, show (withL s (rkey C m)).length = 16 from mk16_length _]; exact infoS)) rfl ⟨by rw [decRound, ← HM.out.1, ← HS1.out, decMix, if_pos (by have := HW.out; omega)], HR.out.bel⟩
  · have b0 : decide ((m : Int) > 0) = true := decide_eq_true (by omega)
    have b1 : decide (0 < (m : Int)) = true := decide_eq_true (by omega)
    have b2 : decide ((m : Int) < 14) = true := decide_eq_true (by omega)
    have p0 : 0 < (m : Int) := by omega
    have p14 : (m : Int) < 14 := by omega
    have b15 : (m : Int) < 15 := by omega
    have em : (14 : Int) - (n : Int) = (m : Int) := by omega
    have HW := Aside0.mk hw
    clear hw hm hn14
    go_wp2
    have hgc := HR.out.drew.ptr.cell 0 _ rfl
    refine wp_region_still_tail 7 (by kernel_rfl) (by kernel_rfl) ?_
    simp only [List.take_succ_cons, List.take_zero, List.drop_succ_cons, List.drop_zero]
    refine HR.out.drew.box.stillLoad0 _ _ rfl rfl rfl _ Try.underlying75 rfl (by rw [HS.out]; exact infoS) ?_
    still_step
    still_step
    still_step
    still_step
    still_step
    refine HR.out.drew.cip.stillLoad _ _ (m * 16) 16 (by rw [HCL.out]; have := HM.out; omega) rfl rfl rfl _ Try.underlying75 rfl infoS ?_
    rw [show (C.drop (m * 16)).take 16 = rkey C m from rfl]
    refine wpStill_nil ?_
    change wpList _ _ _ _ _ (World.drew _)
    have n1 := Aside0.mk HR.out.drew
    clear HR hgc
    have HR := n1
    clear n1
    have HKL := Aside0.mk (rkey_length C HCL.out m (by have := HM.out; omega))
    go_wp2_with (first | (go_at_call 56; (refine (with_any s (rkey C m) HS.out HKL.out _).mono ?_); rintro e w2 ⟨rfl, hb⟩; have n1 := Aside0.mk (HR.out.call hb); clear HR hb; have HR := n1; clear n1) | ((with_reducible refine gate_dst (N := 22) rfl ?_); refine HR.out.box.load _ _ rfl rfl rfl _ Try.underlying75 rfl (by rw [b8s_length, show (withL s (rkey C m)).length = 16 from mk16_length _]; exact infoS) ?_) | (go_at_call 55; (refine (columns_any (withL s (rkey C m)) [14, 11, 13, 9] (mk16_length _) rfl _).mono ?_); rintro e w2 ⟨rfl, hb⟩; have n1 := Aside0.mk (HR.out.call hb); clear HR hb; have HR := n1; clear n1) | (refine HR.out.box.store _ _ _ (b8s (colL (withL s (rkey C m)) [14, 11, 13, 9])) rfl rfl rfl rfl (by rw [b8s_length, b8s_length, show (colL (withL s (rkey C m)) [14, 11, 13, 9]).length = 16 from mk16_length _]; exact (show (withL s (rkey C m)).length = 16 from mk16_length _)) (by rw [b8s_length, show (colL (withL s (rkey C m)) [14, 11, 13, 9]).length = 16 from mk16_length _]; exact infoS) (At.one8 _) ?_; have n1 := Aside0.mk (HR.out.setBox (colL (withL s (rkey C m)) [14, 11, 13, 9])); clear HR; have HR := n1; clear n1) | (refine HR.out.box.store _ _ _ (b8s (withL s (rkey C m))) rfl rfl rfl rfl (by rw [b8s_length, b8s_length, show (withL s (rkey C m)).length = 16 from mk16_length _]; exact (HS.out)) (by rw [b8s_length, show (withL s (rkey C m)).length = 16 from mk16_length _]; exact infoS) (At.one8 _) ?_; have n1 := Aside0.mk (HR.out.setBox (withL s (rkey C m))); clear HR; have HR := n1; clear n1))
    have HS1 : Aside0 ((colL (withL s (rkey C m)) [14, 11, 13, 9]) = decCol (withL s (rkey C m)) m) := ⟨by rw [decCol, if_neg (by have := HW.out; omega)]⟩
    obtain ⟨s2, hs2⟩ : ∃ s2, s2 = (colL (withL s (rkey C m)) [14, 11, 13, 9]) := ⟨_, rfl⟩
    have n1 := Aside0.mk (HR.out.cast hs2)
    clear HR
    have HR := n1
    clear n1
    have HS2 : Aside0 (s2 = decCol (withL s (rkey C m)) m) := ⟨by rw [hs2]; exact HS1.out⟩
    clear hs2 HS1
    have HL : Aside0 (s2.length = 16) := ⟨by rw [HS2.out]; exact decCol_length _ _ (mk16_length _)⟩
    refine wp_region_held (S := fun w2 => At w2 gc 49 [.pointer (some ⟨g, 0, none⟩)] ∧ At w2 g 80 (b8s C)) (by kernel_rfl) ?_
    change wpAnyH _ _ _ _ _ _ _ _ (World.drew _)
    have n1 := Aside0.mk HR.out.drew
    clear HR
    have HR := n1
    clear n1
    refine takeN (i := 2) (some 29) (.pointer (some ⟨g, 0, none⟩)) rfl rfl (by kernel_rfl) (by kernel_rfl) (by kernel_rfl) (fun _ _ _ h => h) (.inl ⟨rfl, fun w2 h2 => ?y2⟩) ⟨HR.out.ptr, HR.out.cip⟩ ?_
    case y2 =>
      have hgc := h2.1.cell 0 _ rfl
      unfold execOp
      go_simp
    try simp only [Act.put, List.setIfInBounds_toArray, List.set_cons_zero, List.set_cons_succ]
    refine takeN (i := 3) (some 30) (.pointer (some ⟨g, 0, none⟩)) rfl rfl (by kernel_rfl) (by kernel_rfl) (by kernel_rfl) (fun _ _ _ h => h) (.inl ⟨rfl, fun w2 h2 => ?y3⟩) ⟨HR.out.ptr, HR.out.cip⟩ ?_
    case y3 =>
      unfold execOp
      go_simp
    try simp only [Act.put, List.setIfInBounds_toArray, List.set_cons_zero, List.set_cons_succ]
    refine takeN (i := 4) (some 31) (.pointer (some ⟨g, 496, none⟩)) rfl rfl (by kernel_rfl) (by kernel_rfl) (by kernel_rfl) (fun _ _ _ h => h) (.inl ⟨rfl, fun w2 h2 => ?y4⟩) ⟨HR.out.ptr, HR.out.cip⟩ ?_
    case y4 =>
      unfold execOp
      go_simp
    try simp only [Act.put, List.setIfInBounds_toArray, List.set_cons_zero, List.set_cons_succ]
    refine takeN (i := 5) (some 32) (.agg (b8s (fromT C)).toArray) rfl rfl (by kernel_rfl) (by kernel_rfl) (by kernel_rfl) (fun _ _ _ h => h) (yieldsMid (fun w2 h2 => h2.2) _ _ 496 256 (by have := HCL.out; omega) rfl rfl rfl _ Try.underlying78 rfl infoT) ⟨HR.out.ptr, HR.out.cip⟩ ?_
    try simp only [Act.put, List.setIfInBounds_toArray, List.set_cons_zero, List.set_cons_succ]
    refine anyH_one (i := 0) (by kernel_rfl) rfl (wpLoad (some 27) rfl HR.out.box _ _ rfl rfl rfl _ Try.underlying75 rfl (by rw [b8s_length, HL.out]; exact infoS) ⟨⟨HR.out.ptr, HR.out.cip⟩, ?_⟩)
    try simp only [Act.put, List.setIfInBounds_toArray, List.set_cons_zero, List.set_cons_succ]
    refine anyH_one (i := 1) (by kernel_rfl) rfl (goes_ (N := some 28) Try.func54 (by kernel_rfl) rfl #[.agg (b8s s2).toArray, .int .i64 3] rfl rfl rfl (by simp [Act.eval, Act.put]) ?_)
    refine (rows_any s2 3 HL.out (.inr rfl) _).mono ?_
    rintro e w2 ⟨rfl, hb⟩
    have n1 := Aside0.mk (HR.out.call hb)
    clear HR hb
    have HR := n1
    clear n1
    refine ⟨_, rfl, ⟨HR.out.ptr, HR.out.cip⟩, ?_⟩
    try simp only [Act.put, List.setIfInBounds_toArray, List.set_cons_zero, List.set_cons_succ]
    refine anyH_one (i := 6) (by kernel_rfl) rfl (goes_ (N := some 33) Try.func53 (by kernel_rfl) rfl #[.agg (b8s (rowL s2 3)).toArray, .agg (b8s (fromT C)).toArray] rfl rfl rfl (by simp [Act.eval, Act.put]) ?_)
    refine (swapped_any (rowL s2 3) (fromT C) (mk16_length _) (fromT_length C HCL.out) _).mono ?_
    rintro e w3 ⟨rfl, hb⟩
    have n1 := Aside0.mk (HR.out.call hb)
    clear HR hb
    have HR := n1
    clear n1
    refine ⟨_, rfl, ⟨HR.out.ptr, HR.out.cip⟩, ?_⟩
    try simp only [Act.put, List.setIfInBounds_toArray, List.set_cons_zero, List.set_cons_succ]
    have n1 := Aside0.mk (HR.out.setBox (swapL (rowL s2 3) (fromT C)))
    refine anyH_one (i := 7) (by kernel_rfl) rfl ?_
    refine wpStore rfl HR.out.box 75 (.tmp 3) (.tmp 33) (b8s (swapL (rowL s2 3) (fromT C))) rfl rfl rfl rfl (by rw [b8s_length, b8s_length, HL.out, show (swapL (rowL s2 3) (fromT C)).length = 16 from mk16_length _]) (by rw [b8s_length, show (swapL (rowL s2 3) (fromT C)).length = 16 from mk16_length _]; exact infoS) (At.one8 _) ?_
    refine ⟨⟨n1.out.ptr, n1.out.cip⟩, ?_⟩
    clear HR
    have HR := n1
    clear n1
    refine wpAnyH_done (by kernel_rfl) ?_ _
    try simp [Act.put]
    go_wp2_with (first | ((with_reducible refine gate_dst (N := 34) rfl ?_); refine HR.out.box.load _ _ rfl rfl rfl _ Try.underlying75 rfl (by rw [b8s_length, show (swapL (rowL s2 3) (fromT C)).length = 16 from mk16_length _]; exact infoS) ?_) | (refine HR.out.res.store _ _ _ (b8s (swapL (rowL s2 3) (fromT C))) rfl rfl rfl rfl (by rw [b8s_length, b8s_length, show (swapL (rowL s2 3) (fromT C)).length = 16 from mk16_length _]; exact (List.length_replicate)) (by rw [b8s_length, show (swapL (rowL s2 3) (fromT C)).length = 16 from mk16_length _]; exact infoS) (At.one8 _) ?_; have n1 := Aside0.mk (HR.out.setRes (swapL (rowL s2 3) (fromT C))); clear HR; have HR := n1; clear n1))
    refine bodyPost_ret (HR.out.res.ret rfl _ _ rfl Try.underlying75 rfl (by rw [b8s_length, show (swapL (rowL s2 3) (fromT C)).length = 16 from mk16_length _]; exact infoS)) rfl ⟨by rw [decRound, ← HM.out.1, ← HS2.out, decMix, if_neg (by have := HW.out; omega)], HR.out.bel⟩
  · have b0 : decide ((m : Int) > 0) = true := decide_eq_true (by omega)
    have b1 : decide (0 < (m : Int)) = true := decide_eq_true (by omega)
    have b2 : decide ((m : Int) < 14) = false := decide_eq_false (by omega)
    have p0 : 0 < (m : Int) := by omega
    have p14 : 14 ≤ (m : Int) := by omega
    have b15 : (m : Int) < 15 := by omega
    have em : (14 : Int) - (n : Int) = (m : Int) := by omega
    have HW := Aside0.mk hw
    clear hw hm hn14
    go_wp2
    have hgc := HR.out.drew.ptr.cell 0 _ rfl
    refine wp_region_still_tail 7 (by kernel_rfl) (by kernel_rfl) ?_
    simp only [List.take_succ_cons, List.take_zero, List.drop_succ_cons, List.drop_zero]
    refine HR.out.drew.box.stillLoad0 _ _ rfl rfl rfl _ Try.underlying75 rfl (by rw [HS.out]; exact infoS) ?_
    still_step
    still_step
    still_step
    still_step
    still_step
    refine HR.out.drew.cip.stillLoad _ _ (m * 16) 16 (by rw [HCL.out]; have := HM.out; omega) rfl rfl rfl _ Try.underlying75 rfl infoS ?_
    rw [show (C.drop (m * 16)).take 16 = rkey C m from rfl]
    refine wpStill_nil ?_
    change wpList _ _ _ _ _ (World.drew _)
    have n1 := Aside0.mk HR.out.drew
    clear HR hgc
    have HR := n1
    clear n1
    have HKL := Aside0.mk (rkey_length C HCL.out m (by have := HM.out; omega))
    go_wp2_with (first | (go_at_call 56; (refine (with_any s (rkey C m) HS.out HKL.out _).mono ?_); rintro e w2 ⟨rfl, hb⟩; have n1 := Aside0.mk (HR.out.call hb); clear HR hb; have HR := n1; clear n1) | (refine HR.out.box.store _ _ _ (b8s (withL s (rkey C m))) rfl rfl rfl rfl (by rw [b8s_length, b8s_length, show (withL s (rkey C m)).length = 16 from mk16_length _]; exact (HS.out)) (by rw [b8s_length, show (withL s (rkey C m)).length = 16 from mk16_length _]; exact infoS) (At.one8 _) ?_; have n1 := Aside0.mk (HR.out.setBox (withL s (rkey C m))); clear HR; have HR := n1; clear n1))
    have HS1 : Aside0 ((withL s (rkey C m)) = decCol (withL s (rkey C m)) m) := ⟨by rw [decCol, if_pos (by have := HW.out; omega)]⟩
    obtain ⟨s2, hs2⟩ : ∃ s2, s2 = (withL s (rkey C m)) := ⟨_, rfl⟩
    have n1 := Aside0.mk (HR.out.cast hs2)
    clear HR
    have HR := n1
    clear n1
    have HS2 : Aside0 (s2 = decCol (withL s (rkey C m)) m) := ⟨by rw [hs2]; exact HS1.out⟩
    clear hs2 HS1
    have HL : Aside0 (s2.length = 16) := ⟨by rw [HS2.out]; exact decCol_length _ _ (mk16_length _)⟩
    refine wp_region_held (S := fun w2 => At w2 gc 49 [.pointer (some ⟨g, 0, none⟩)] ∧ At w2 g 80 (b8s C)) (by kernel_rfl) ?_
    change wpAnyH _ _ _ _ _ _ _ _ (World.drew _)
    have n1 := Aside0.mk HR.out.drew
    clear HR
    have HR := n1
    clear n1
    refine takeN (i := 2) (some 29) (.pointer (some ⟨g, 0, none⟩)) rfl rfl (by kernel_rfl) (by kernel_rfl) (by kernel_rfl) (fun _ _ _ h => h) (.inl ⟨rfl, fun w2 h2 => ?y2⟩) ⟨HR.out.ptr, HR.out.cip⟩ ?_
    case y2 =>
      have hgc := h2.1.cell 0 _ rfl
      unfold execOp
      go_simp
    try simp only [Act.put, List.setIfInBounds_toArray, List.set_cons_zero, List.set_cons_succ]
    refine takeN (i := 3) (some 30) (.pointer (some ⟨g, 0, none⟩)) rfl rfl (by kernel_rfl) (by kernel_rfl) (by kernel_rfl) (fun _ _ _ h => h) (.inl ⟨rfl, fun w2 h2 => ?y3⟩) ⟨HR.out.ptr, HR.out.cip⟩ ?_
    case y3 =>
      unfold execOp
      go_simp
    try simp only [Act.put, List.setIfInBounds_toArray, List.set_cons_zero, List.set_cons_succ]
    refine takeN (i := 4) (some 31) (.pointer (some ⟨g, 496, none⟩)) rfl rfl (by kernel_rfl) (by kernel_rfl) (by kernel_rfl) (fun _ _ _ h => h) (.inl ⟨rfl, fun w2 h2 => ?y4⟩) ⟨HR.out.ptr, HR.out.cip⟩ ?_
    case y4 =>
      unfold execOp
      go_simp
    try simp only [Act.put, List.setIfInBounds_toArray, List.set_cons_zero, List.set_cons_succ]
    refine takeN (i := 5) (some 32) (.agg (b8s (fromT C)).toArray) rfl rfl (by kernel_rfl) (by kernel_rfl) (by kernel_rfl) (fun _ _ _ h => h) (yieldsMid (fun w2 h2 => h2.2) _ _ 496 256 (by have := HCL.out; omega) rfl rfl rfl _ Try.underlying78 rfl infoT) ⟨HR.out.ptr, HR.out.cip⟩ ?_
    try simp only [Act.put, List.setIfInBounds_toArray, List.set_cons_zero, List.set_cons_succ]
    refine anyH_one (i := 0) (by kernel_rfl) rfl (wpLoad (some 27) rfl HR.out.box _ _ rfl rfl rfl _ Try.underlying75 rfl (by rw [b8s_length, HL.out]; exact infoS) ⟨⟨HR.out.ptr, HR.out.cip⟩, ?_⟩)
    try simp only [Act.put, List.setIfInBounds_toArray, List.set_cons_zero, List.set_cons_succ]
    refine anyH_one (i := 1) (by kernel_rfl) rfl (goes_ (N := some 28) Try.func54 (by kernel_rfl) rfl #[.agg (b8s s2).toArray, .int .i64 3] rfl rfl rfl (by simp [Act.eval, Act.put]) ?_)
    refine (rows_any s2 3 HL.out (.inr rfl) _).mono ?_
    rintro e w2 ⟨rfl, hb⟩
    have n1 := Aside0.mk (HR.out.call hb)
    clear HR hb
    have HR := n1
    clear n1
    refine ⟨_, rfl, ⟨HR.out.ptr, HR.out.cip⟩, ?_⟩
    try simp only [Act.put, List.setIfInBounds_toArray, List.set_cons_zero, List.set_cons_succ]
    refine anyH_one (i := 6) (by kernel_rfl) rfl (goes_ (N := some 33) Try.func53 (by kernel_rfl) rfl #[.agg (b8s (rowL s2 3)).toArray, .agg (b8s (fromT C)).toArray] rfl rfl rfl (by simp [Act.eval, Act.put]) ?_)
    refine (swapped_any (rowL s2 3) (fromT C) (mk16_length _) (fromT_length C HCL.out) _).mono ?_
    rintro e w3 ⟨rfl, hb⟩
    have n1 := Aside0.mk (HR.out.call hb)
    clear HR hb
    have HR := n1
    clear n1
    refine ⟨_, rfl, ⟨HR.out.ptr, HR.out.cip⟩, ?_⟩
    try simp only [Act.put, List.setIfInBounds_toArray, List.set_cons_zero, List.set_cons_succ]
    have n1 := Aside0.mk (HR.out.setBox (swapL (rowL s2 3) (fromT C)))
    refine anyH_one (i := 7) (by kernel_rfl) rfl ?_
    refine wpStore rfl HR.out.box 75 (.tmp 3) (.tmp 33) (b8s (swapL (rowL s2 3) (fromT C))) rfl rfl rfl rfl (by rw [b8s_length, b8s_length, HL.out, show (swapL (rowL s2 3) (fromT C)).length = 16 from mk16_length _]) (by rw [b8s_length, show (swapL (rowL s2 3) (fromT C)).length = 16 from mk16_length _]; exact infoS) (At.one8 _) ?_
    refine ⟨⟨n1.out.ptr, n1.out.cip⟩, ?_⟩
    clear HR
    have HR := n1
    clear n1
    refine wpAnyH_done (by kernel_rfl) ?_ _
    try simp [Act.put]
    go_wp2_with (first | ((with_reducible refine gate_dst (N := 34) rfl ?_); refine HR.out.box.load _ _ rfl rfl rfl _ Try.underlying75 rfl (by rw [b8s_length, show (swapL (rowL s2 3) (fromT C)).length = 16 from mk16_length _]; exact infoS) ?_) | (refine HR.out.res.store _ _ _ (b8s (swapL (rowL s2 3) (fromT C))) rfl rfl rfl rfl (by rw [b8s_length, b8s_length, show (swapL (rowL s2 3) (fromT C)).length = 16 from mk16_length _]; exact (List.length_replicate)) (by rw [b8s_length, show (swapL (rowL s2 3) (fromT C)).length = 16 from mk16_length _]; exact infoS) (At.one8 _) ?_; have n1 := Aside0.mk (HR.out.setRes (swapL (rowL s2 3) (fromT C))); clear HR; have HR := n1; clear n1))
    refine bodyPost_ret (HR.out.res.ret rfl _ _ rfl Try.underlying75 rfl (by rw [b8s_length, show (swapL (rowL s2 3) (fromT C)).length = 16 from mk16_length _]; exact infoS)) rfl ⟨by rw [decRound, ← HM.out.1, ← HS2.out, decMix, if_neg (by have := HW.out; omega)], HR.out.bel⟩
end Go.Proofs.Ytdegeodegjmddaa.Given
