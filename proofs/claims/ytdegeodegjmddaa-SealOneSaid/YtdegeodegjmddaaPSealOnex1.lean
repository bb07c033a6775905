/- The machine side of a law: printed by a program (wip/gprint.py over the kit's print), with the contracts of some functions proved by hand. Conditions: as each theorem names them. -/
import Derived.Test.YtdegeodegjmddaaPSealOnex0
namespace Go.Proofs.Ytdegeodegjmddaa.PSealOne
open Go.RowKit Go.Proofs.YtdegeodegjmddaaW.PrintWords Go.Proofs.YtdegeodegjmddaaW.PrintLast Go.Proofs.YtdegeodegjmddaaW.PrintMore
attribute [local go_sem] max2_int min2_int max_two min_two max_three min_three max_four min_four   -- for this text's walks alone
set_option linter.unusedVariables false
set_option linter.unusedSimpArgs false

-- by hand: function 9 (hamperlaw23_works)

-- by hand: function 10 (seal_Lock)

/-! ### hamperlaw23_SealOne: function 3 -/
def hamperlaw23_SealOne.j0 : Nat → ByteArray → ByteArray → Bool → ByteArray → ByteArray → ByteArray → Int → Option (Bool)
  | 0, _, _, _, _, _, _, _ => none
  | k + 1, x0, x1, x30, x102000, x102001, x102002, x102003 => if x30 = true then ((Given.law23_works.f).bind fun t103 => (some t103)) else ((Given.seal_Lock.f x0 x102000 x102001 x102002 x102003).bind fun bt104 => ((Given.seal_Lock.f x1 x102000 x102001 x102002 x102003).bind fun bt106 => ((Given.seal_Lock.f x0 x102000 x102001 x102002 x102003).bind fun bt108 => (if bt104.2 = bt106.2 then (if bt104.2 = bt108.2 then (if bt104.2 = 0 then (if ((bt104.1.toList == bt106.1.toList) == (x0.toList == x1.toList)) = true then (some (bt104.1.toList == bt108.1.toList)) else (some false)) else (if bt104.1.toList = ([] : List UInt8) then (if bt106.1.toList = ([] : List UInt8) then (some true) else (some false)) else (some false))) else (some false)) else (some false)))))
def hamperlaw23_SealOne.f (k : Nat) (a0 : ByteArray) (a1 : ByteArray) (a2_0 : ByteArray) (a2_1 : ByteArray) (a2_2 : ByteArray) (a2_3 : Int) : Option (Bool) := (Given.law23_works.f).bind fun t102 => (if t102 = true then (if (a0.size : Int) > 1500 then (hamperlaw23_SealOne.j0 k a0 a1 true a2_0 a2_1 a2_2 a2_3) else (if (a1.size : Int) > 1500 then (hamperlaw23_SealOne.j0 k a0 a1 true a2_0 a2_1 a2_2 a2_3) else (hamperlaw23_SealOne.j0 k a0 a1 (decide ((a2_0.size : Int) > 500)) a2_0 a2_1 a2_2 a2_3))) else (hamperlaw23_SealOne.j0 k a0 a1 true a2_0 a2_1 a2_2 a2_3))
theorem hamperlaw23_SealOne.mono_l : ∀ k, (∀ y0 y1 y2 y3 y4 y5 y6, LeO (hamperlaw23_SealOne.j0 k y0 y1 y2 y3 y4 y5 y6) (hamperlaw23_SealOne.j0 (k + 1) y0 y1 y2 y3 y4 y5 y6))
  | 0 => fun _ _ _ _ _ _ _ r h => by simp [hamperlaw23_SealOne.j0] at h
  | k + 1 => by
    have ih0 := hamperlaw23_SealOne.mono_l k
    · intro y0 y1 y2 y3 y4 y5 y6
      unfold hamperlaw23_SealOne.j0
      repeat' first
      | (with_reducible exact ih0 _ _ _ _ _ _ _)
      | (with_reducible exact LeO.refl _)
      | (with_reducible exact LeO.none _)
      | (with_reducible refine LeO.ite ?_ ?_)
      | (with_reducible refine LeO.bind ?_ (fun _ => ?_))
      | exact ih0 _ _ _ _ _ _ _
      | exact LeO.none _
      | refine LeO.ite ?_ ?_
      | refine LeO.bind ?_ (fun _ => ?_)
theorem hamperlaw23_SealOne.mono : ∀ a0 a1 a2 a3 a4 a5 k, LeO (hamperlaw23_SealOne.f k a0 a1 a2 a3 a4 a5) (hamperlaw23_SealOne.f (k + 1) a0 a1 a2 a3 a4 a5) := by
  intro a0 a1 a2 a3 a4 a5 k
  have ih0 := hamperlaw23_SealOne.mono_l k
  unfold hamperlaw23_SealOne.f
  repeat' first
      | (with_reducible exact ih0 _ _ _ _ _ _ _)
      | (with_reducible exact LeO.refl _)
      | (with_reducible exact LeO.none _)
      | (with_reducible refine LeO.ite ?_ ?_)
      | (with_reducible refine LeO.bind ?_ (fun _ => ?_))
      | exact ih0 _ _ _ _ _ _ _
      | exact LeO.none _
      | refine LeO.ite ?_ ?_
      | refine LeO.bind ?_ (fun _ => ?_)
set_option maxHeartbeats 8000000 in
set_option maxRecDepth 100000 in
theorem hamperlaw23_SealOne.calls (k : Nat) (a0 : ByteArray) (a1 : ByteArray) (a2_0 : ByteArray) (a2_1 : ByteArray) (a2_2 : ByteArray) (a2_3 : Int) (r : Bool) (w : World) (h : hamperlaw23_SealOne.f k a0 a1 a2_0 a2_1 a2_2 a2_3 = some r) (hr_ : Aside0 (r = true)) :
    Calls Try.prog 3 #[.string a0, .string a1, .agg #[.string a2_0, .string a2_1, .string a2_2, .int .i64 a2_3]] w fun e w' => e = .returned (.bool r) ∧ Below w.heap.size w w' := by
  have hu23 := Try.underlying23
  have HB := Aside0.mk (Below.refl w.heap.size w)
  have H : ((Given.law23_works.f).bind fun t102 => (if t102 = true then (if (a0.size : Int) > 1500 then (hamperlaw23_SealOne.j0 k a0 a1 true a2_0 a2_1 a2_2 a2_3) else (if (a1.size : Int) > 1500 then (hamperlaw23_SealOne.j0 k a0 a1 true a2_0 a2_1 a2_2 a2_3) else (hamperlaw23_SealOne.j0 k a0 a1 (decide ((a2_0.size : Int) > 500)) a2_0 a2_1 a2_2 a2_3))) else (hamperlaw23_SealOne.j0 k a0 a1 true a2_0 a2_1 a2_2 a2_3))) = some r := h
  clear h
  have HC4 := Aside0.mk H
  clear H
  go_enter Try.func3, Try.ntmps3
  go_upto_region 1 with (first | ((with_reducible refine gate_dst (N := 5) rfl ?_); (try (refine gate_guard (by rfl) ?_; dsimp only)); refine box_event ?hg (N := 5) ?hd (cs := #[.string a2_0, .string a2_1, .string a2_2, .int .i64 a2_3]) (t := 23) ?hr ?_; (case hd => rfl); (case hg => rfl); (case hr => first | (go_simp; done) | (go_simp; rfl)); intro gb101 hg w5 hbox hb; have n0_ := Aside0.mk (below_step (by repeat (first | (with_reducible first | exact HB.out | apply below_alloc | apply pw_below_drewN | apply below_drew1) | exact HB.out)) hb); have n1_ := Aside0.mk (hbox); have n2_ := Aside0.mk ((by rw [hg]; exact (below_size (by repeat (first | (with_reducible first | exact HB.out | apply below_alloc | apply pw_below_drewN | apply below_drew1) | exact HB.out))) : w.heap.size ≤ gb101)); have n3_ := Aside0.mk ((by rw [hg]; exact (below_size (by repeat (first | (with_reducible first | exact HB.out | apply below_alloc | apply pw_below_drewN | apply below_drew1) | exact HB.out))) : w.heap.size ≤ gb101)); clear HB; have HB := n0_; have BK101 := n1_; have GW101 := n2_; have GE101 := n3_; clear n0_ n1_ n2_ n3_; clear hb hbox hg))
  (try simp only [Act.put, List.setIfInBounds_toArray, List.set_cons_zero, List.set_cons_succ])
  go_cut [30] (fun v30 wc => ∃ (kq : Nat) (x30_3 : Bool), v30 = .bool x30_3 ∧ Aside0 (hamperlaw23_SealOne.j0 kq a0 a1 x30_3 a2_0 a2_1 a2_2 a2_3 = some r) ∧ Aside0 (kq ≤ k) ∧ Aside0 (wc.heap[gb101]? = some (.cells #[.string a2_0, .string a2_1, .string a2_2, .int .i64 a2_3] 23 (0, 0))) ∧ Aside0 (Below w.heap.size w wc))
  case first =>
    have H := HC4.out
    clear HC4
    replace H := Option.bind_eq_some_iff.mp H
    obtain ⟨t102, A60, H⟩ := H
    replace H : (if t102 = true then (if (a0.size : Int) > 1500 then (hamperlaw23_SealOne.j0 k a0 a1 true a2_0 a2_1 a2_2 a2_3) else (if (a1.size : Int) > 1500 then (hamperlaw23_SealOne.j0 k a0 a1 true a2_0 a2_1 a2_2 a2_3) else (hamperlaw23_SealOne.j0 k a0 a1 (decide ((a2_0.size : Int) > 500)) a2_0 a2_1 a2_2 a2_3))) else (hamperlaw23_SealOne.j0 k a0 a1 true a2_0 a2_1 a2_2 a2_3)) = some r := H
    have A6 := Aside0.mk A60
    clear A60
    by_cases c7 : t102 = true
    · subst c7
      have H1 : (if (a0.size : Int) > 1500 then (hamperlaw23_SealOne.j0 k a0 a1 true a2_0 a2_1 a2_2 a2_3) else (if (a1.size : Int) > 1500 then (hamperlaw23_SealOne.j0 k a0 a1 true a2_0 a2_1 a2_2 a2_3) else (hamperlaw23_SealOne.j0 k a0 a1 (decide ((a2_0.size : Int) > 500)) a2_0 a2_1 a2_2 a2_3))) = some r := by rw [if_pos rfl] at H; exact H
      clear H
      have H := H1
      clear H1
      by_cases c8 : (a0.size : Int) > 1500
      · rw [if_pos c8] at H
        have c8b0 : decide (1500 < (a0.size : Int)) = true := decide_eq_true c8
        have c8b1 : decide (1500 < a0.size) = true := decide_eq_true (by omega)
        clear c8
        (first | rw [c8b0] | (simp only [i64_w, i32_w]; rw [c8b0]) | skip)
        have H' := Aside0.mk H
        clear H
        go_wp2_with (first | ((with_reducible refine gate_callee (f := 9) rfl ?_); refine goesL_ (some 13) rfl rfl Try.func9 (by kernel_rfl) rfl #[] rfl (by (try simp only [List.map_toArray, List.map_cons, List.map_nil]); first | done | rfl | (simp only [List.length_drop, List.length_take]; rfl)) ?_; (with_reducible refine (Given.law23_works.calls  true _ A6.out).mono ?_); rintro e w9 ⟨rfl, hb⟩; refine ⟨_, rfl, ?_⟩; have n0_ := Aside0.mk (blk_below (g := gb101) (o := .cells #[.string a2_0, .string a2_1, .string a2_2, .int .i64 a2_3] 23 (0, 0)) (by (with_reducible repeat (first | refine blk_drewN ?_ _ | refine blk_drew ?_ | refine blk_alloc ?_ _)); exact BK101.out) hb); have n1_ := Aside0.mk (below_step (by repeat (first | (with_reducible first | exact HB.out | apply below_alloc | apply pw_below_drewN | apply below_drew1 | refine below_set ?_ GE101.out) | exact HB.out)) hb); clear BK101; clear HB; have BK101 := n0_; have HB := n1_; clear n0_ n1_; (try clear hb); (try clear hb2); (try clear hk); (try clear hi)))
        go_meet
        case rel => exact ⟨_, (true), (by first | rfl | (simp; done) | (simp [*]; done)), H', ⟨by first | omega | exact Nat.le_refl _⟩, ⟨by (with_reducible repeat (first | refine blk_drewN ?_ _ | refine blk_drew ?_ | refine blk_alloc ?_ _)); exact BK101.out⟩, ⟨by repeat (first | (with_reducible first | exact HB.out | apply below_alloc | apply pw_below_drewN | apply below_drew1 | refine below_set ?_ GE101.out) | exact HB.out)⟩⟩
      · rw [if_neg c8] at H
        have c8b0 : decide (1500 < (a0.size : Int)) = false := decide_eq_false c8
        have c8b1 : decide (1500 < a0.size) = false := decide_eq_false (by omega)
        clear c8
        (first | rw [c8b0] | (simp only [i64_w, i32_w]; rw [c8b0]) | skip)
        by_cases c10 : (a1.size : Int) > 1500
        · rw [if_pos c10] at H
          have c10b0 : decide (1500 < (a1.size : Int)) = true := decide_eq_true c10
          have c10b1 : decide (1500 < a1.size) = true := decide_eq_true (by omega)
          clear c10
          have H' := Aside0.mk H
          clear H
          go_wp2_with (first | ((with_reducible refine gate_callee (f := 9) rfl ?_); refine goesL_ (some 13) rfl rfl Try.func9 (by kernel_rfl) rfl #[] rfl (by (try simp only [List.map_toArray, List.map_cons, List.map_nil]); first | done | rfl | (simp only [List.length_drop, List.length_take]; rfl)) ?_; (with_reducible refine (Given.law23_works.calls  true _ A6.out).mono ?_); rintro e w11 ⟨rfl, hb⟩; refine ⟨_, rfl, ?_⟩; have n0_ := Aside0.mk (blk_below (g := gb101) (o := .cells #[.string a2_0, .string a2_1, .string a2_2, .int .i64 a2_3] 23 (0, 0)) (by (with_reducible repeat (first | refine blk_drewN ?_ _ | refine blk_drew ?_ | refine blk_alloc ?_ _)); exact BK101.out) hb); have n1_ := Aside0.mk (below_step (by repeat (first | (with_reducible first | exact HB.out | apply below_alloc | apply pw_below_drewN | apply below_drew1 | refine below_set ?_ GE101.out) | exact HB.out)) hb); clear BK101; clear HB; have BK101 := n0_; have HB := n1_; clear n0_ n1_; (try clear hb); (try clear hb2); (try clear hk); (try clear hi)))
          go_meet
          case rel => exact ⟨_, (true), (by first | rfl | (simp; done) | (simp [*]; done)), H', ⟨by first | omega | exact Nat.le_refl _⟩, ⟨by (with_reducible repeat (first | refine blk_drewN ?_ _ | refine blk_drew ?_ | refine blk_alloc ?_ _)); exact BK101.out⟩, ⟨by repeat (first | (with_reducible first | exact HB.out | apply below_alloc | apply pw_below_drewN | apply below_drew1 | refine below_set ?_ GE101.out) | exact HB.out)⟩⟩
        · rw [if_neg c10] at H
          have c10b0 : decide (1500 < (a1.size : Int)) = false := decide_eq_false c10
          have c10b1 : decide (1500 < a1.size) = false := decide_eq_false (by omega)
          clear c10
          have H' := Aside0.mk H
          clear H
          go_wp2_with (first | ((with_reducible refine gate_callee (f := 9) rfl ?_); refine goesL_ (some 13) rfl rfl Try.func9 (by kernel_rfl) rfl #[] rfl (by (try simp only [List.map_toArray, List.map_cons, List.map_nil]); first | done | rfl | (simp only [List.length_drop, List.length_take]; rfl)) ?_; (with_reducible refine (Given.law23_works.calls  true _ A6.out).mono ?_); rintro e w12 ⟨rfl, hb⟩; refine ⟨_, rfl, ?_⟩; have n0_ := Aside0.mk (blk_below (g := gb101) (o := .cells #[.string a2_0, .string a2_1, .string a2_2, .int .i64 a2_3] 23 (0, 0)) (by (with_reducible repeat (first | refine blk_drewN ?_ _ | refine blk_drew ?_ | refine blk_alloc ?_ _)); exact BK101.out) hb); have n1_ := Aside0.mk (below_step (by repeat (first | (with_reducible first | exact HB.out | apply below_alloc | apply pw_below_drewN | apply below_drew1 | refine below_set ?_ GE101.out) | exact HB.out)) hb); clear BK101; clear HB; have BK101 := n0_; have HB := n1_; clear n0_ n1_; (try clear hb); (try clear hb2); (try clear hk); (try clear hi); have hcz13_0 : w12.cell? ⟨gb101, 0, none⟩ = some (.string a2_0) := (blk_cell BK101.out 0).trans rfl; have hcz13_1 : w12.cell? ⟨gb101, 1, none⟩ = some (.string a2_1) := (blk_cell BK101.out 1).trans rfl; have hcz13_2 : w12.cell? ⟨gb101, 2, none⟩ = some (.string a2_2) := (blk_cell BK101.out 2).trans rfl; have hcz13_3 : w12.cell? ⟨gb101, 3, none⟩ = some (.int .i64 a2_3) := (blk_cell BK101.out 3).trans rfl; have hfz13_0 := blk_frozen BK101.out 0; have hfz13_1 := blk_frozen BK101.out 1; have hfz13_2 := blk_frozen BK101.out 2; have hfz13_3 := blk_frozen BK101.out 3))
          go_meet
          case rel => exact ⟨_, (decide ((a2_0.size : Int) > 500)), (by first | rfl | (simp; done) | (simp [*]; done)), H', ⟨by first | omega | exact Nat.le_refl _⟩, ⟨by (with_reducible repeat (first | refine blk_drewN ?_ _ | refine blk_drew ?_ | refine blk_alloc ?_ _)); exact BK101.out⟩, ⟨by repeat (first | (with_reducible first | exact HB.out | apply below_alloc | apply pw_below_drewN | apply below_drew1 | refine below_set ?_ GE101.out) | exact HB.out)⟩⟩
    · replace c7 := Bool.eq_false_iff.mpr c7
      subst c7
      have H1 : (hamperlaw23_SealOne.j0 k a0 a1 true a2_0 a2_1 a2_2 a2_3) = some r := by rw [if_neg (show ¬ (false = true) by decide)] at H; exact H
      clear H
      have H := H1
      clear H1
      have H' := Aside0.mk H
      clear H
      go_wp2_with (first | ((with_reducible refine gate_callee (f := 9) rfl ?_); refine goesL_ (some 13) rfl rfl Try.func9 (by kernel_rfl) rfl #[] rfl (by (try simp only [List.map_toArray, List.map_cons, List.map_nil]); first | done | rfl | (simp only [List.length_drop, List.length_take]; rfl)) ?_; (with_reducible refine (Given.law23_works.calls  false _ A6.out).mono ?_); rintro e w14 ⟨rfl, hb⟩; refine ⟨_, rfl, ?_⟩; have n0_ := Aside0.mk (blk_below (g := gb101) (o := .cells #[.string a2_0, .string a2_1, .string a2_2, .int .i64 a2_3] 23 (0, 0)) (by (with_reducible repeat (first | refine blk_drewN ?_ _ | refine blk_drew ?_ | refine blk_alloc ?_ _)); exact BK101.out) hb); have n1_ := Aside0.mk (below_step (by repeat (first | (with_reducible first | exact HB.out | apply below_alloc | apply pw_below_drewN | apply below_drew1 | refine below_set ?_ GE101.out) | exact HB.out)) hb); clear BK101; clear HB; have BK101 := n0_; have HB := n1_; clear n0_ n1_; (try clear hb); (try clear hb2); (try clear hk); (try clear hi)))
      go_meet
      case rel => exact ⟨_, (true), (by first | rfl | (simp; done) | (simp [*]; done)), H', ⟨by first | omega | exact Nat.le_refl _⟩, ⟨by (with_reducible repeat (first | refine blk_drewN ?_ _ | refine blk_drew ?_ | refine blk_alloc ?_ _)); exact BK101.out⟩, ⟨by repeat (first | (with_reducible first | exact HB.out | apply below_alloc | apply pw_below_drewN | apply below_drew1 | refine below_set ?_ GE101.out) | exact HB.out)⟩⟩
  case rest =>
    clear HC4
    try clear c1
    try clear p2
    try clear c3
    try clear c7
    try clear c8
    try clear c8b0
    try clear c8b1
    try clear c9
    try clear c10
    try clear c10b0
    try clear c10b1
    try clear hcz13_0
    try clear hcz13_1
    try clear hcz13_2
    try clear hcz13_3
    try clear hfz13_0
    try clear hfz13_1
    try clear hfz13_2
    try clear hfz13_3
    obtain ⟨kq, x30_3, rfl, HA, HJ3, BK101, HB⟩ := hcut
    cases kq with
    | zero => exact absurd HA.out (by simp [hamperlaw23_SealOne.j0])
    | succ kj3 =>
      have H := HA.out
      clear HA
      simp only [hamperlaw23_SealOne.j0] at H
      by_cases c15 : x30_3 = true
      · subst c15
        have H1 : ((Given.law23_works.f).bind fun t103 => (some t103)) = some r := by rw [if_pos rfl] at H; exact H
        clear H
        have H := H1
        clear H1
        replace H := Option.bind_eq_some_iff.mp H
        obtain ⟨t103, A160, H⟩ := H
        replace H : (some t103) = some r := H
        have A16 := Aside0.mk A160
        clear A160
        obtain rfl := Option.some.inj H
        go_wp2_with (first | ((with_reducible refine gate_callee (f := 9) rfl ?_); refine goesL_ (some 31) rfl rfl Try.func9 (by kernel_rfl) rfl #[] rfl (by (try simp only [List.map_toArray, List.map_cons, List.map_nil]); first | done | rfl | (simp only [List.length_drop, List.length_take]; rfl)) ?_; (with_reducible refine (Given.law23_works.calls  t103 _ A16.out).mono ?_); rintro e w17 ⟨rfl, hb⟩; refine ⟨_, rfl, ?_⟩; have n0_ := Aside0.mk (blk_below (g := gb101) (o := .cells #[.string a2_0, .string a2_1, .string a2_2, .int .i64 a2_3] 23 (0, 0)) (by (with_reducible repeat (first | refine blk_drewN ?_ _ | refine blk_drew ?_ | refine blk_alloc ?_ _)); exact BK101.out) hb); have n1_ := Aside0.mk (below_step (by repeat (first | (with_reducible first | exact HB.out | apply below_alloc | apply pw_below_drewN | apply below_drew1 | refine below_set ?_ GE101.out) | exact HB.out)) hb); clear BK101; clear HB; have BK101 := n0_; have HB := n1_; clear n0_ n1_; (try clear hb); (try clear hb2); (try clear hk); (try clear hi)))
        go_ret
        exact ⟨by first | rfl | (simp [errW_none, errW_some] <;> rfl) | (simp [*, errW_none, errW_some] <;> rfl), by repeat (first | (with_reducible first | exact HB.out | apply below_alloc | apply pw_below_drewN | apply below_drew1 | refine below_set ?_ GE101.out) | exact HB.out)⟩
      · replace c15 := Bool.eq_false_iff.mpr c15
        subst c15
        have H1 : ((Given.seal_Lock.f a0 a2_0 a2_1 a2_2 a2_3).bind fun bt104 => ((Given.seal_Lock.f a1 a2_0 a2_1 a2_2 a2_3).bind fun bt106 => ((Given.seal_Lock.f a0 a2_0 a2_1 a2_2 a2_3).bind fun bt108 => (if bt104.2 = bt106.2 then (if bt104.2 = bt108.2 then (if bt104.2 = 0 then (if ((bt104.1.toList == bt106.1.toList) == (a0.toList == a1.toList)) = true then (some (bt104.1.toList == bt108.1.toList)) else (some false)) else (if bt104.1.toList = ([] : List UInt8) then (if bt106.1.toList = ([] : List UInt8) then (some true) else (some false)) else (some false))) else (some false)) else (some false))))) = some r := by rw [if_neg (show ¬ (false = true) by decide)] at H; exact H
        clear H
        have H := H1
        clear H1
        replace H := Option.bind_eq_some_iff.mp H
        obtain ⟨⟨t104, t105⟩, A180, H⟩ := H
        replace H : ((Given.seal_Lock.f a1 a2_0 a2_1 a2_2 a2_3).bind fun bt106 => ((Given.seal_Lock.f a0 a2_0 a2_1 a2_2 a2_3).bind fun bt108 => (if t105 = bt106.2 then (if t105 = bt108.2 then (if t105 = 0 then (if ((t104.toList == bt106.1.toList) == (a0.toList == a1.toList)) = true then (some (t104.toList == bt108.1.toList)) else (some false)) else (if t104.toList = ([] : List UInt8) then (if bt106.1.toList = ([] : List UInt8) then (some true) else (some false)) else (some false))) else (some false)) else (some false)))) = some r := H
        have A18 := Aside0.mk A180
        clear A180
        replace H := Option.bind_eq_some_iff.mp H
        obtain ⟨⟨t106, t107⟩, A190, H⟩ := H
        replace H : ((Given.seal_Lock.f a0 a2_0 a2_1 a2_2 a2_3).bind fun bt108 => (if t105 = t107 then (if t105 = bt108.2 then (if t105 = 0 then (if ((t104.toList == t106.toList) == (a0.toList == a1.toList)) = true then (some (t104.toList == bt108.1.toList)) else (some false)) else (if t104.toList = ([] : List UInt8) then (if t106.toList = ([] : List UInt8) then (some true) else (some false)) else (some false))) else (some false)) else (some false))) = some r := H
        have A19 := Aside0.mk A190
        clear A190
        replace H := Option.bind_eq_some_iff.mp H
        obtain ⟨⟨t108, t109⟩, A200, H⟩ := H
        replace H : (if t105 = t107 then (if t105 = t109 then (if t105 = 0 then (if ((t104.toList == t106.toList) == (a0.toList == a1.toList)) = true then (some (t104.toList == t108.toList)) else (some false)) else (if t104.toList = ([] : List UInt8) then (if t106.toList = ([] : List UInt8) then (some true) else (some false)) else (some false))) else (some false)) else (some false)) = some r := H
        have A20 := Aside0.mk A200
        clear A200
        by_cases c21 : t105 = t107
        · rw [if_pos c21] at H
          have c21b0 : (t105 == t107) = true := beq_iff_eq.mpr c21
          have c21b1 : (t105 != t107) = false := bne_eq_false_iff_eq.mpr c21
          clear c21
          by_cases c22 : t105 = t109
          · rw [if_pos c22] at H
            have c22b0 : (t105 == t109) = true := beq_iff_eq.mpr c22
            have c22b1 : (t105 != t109) = false := bne_eq_false_iff_eq.mpr c22
            clear c22
            by_cases c23 : t105 = 0
            · rw [if_pos c23] at H
              have c23b0 : (t105 == 0) = true := beq_iff_eq.mpr c23
              have c23b1 : (t105 != 0) = false := bne_eq_false_iff_eq.mpr c23
              clear c23
              by_cases c24 : ((t104.toList == t106.toList) == (a0.toList == a1.toList)) = true
              · rw [if_pos c24] at H
                have c24b0 : ((t104.toList == t106.toList) == (a0.toList == a1.toList)) = true := c24
                (try (have c24b1 : decide ((t104.toList == t106.toList) = (a0.toList == a1.toList)) = true := by simpa using c24))
                (try (have c24b2 : ((t104.toList == t106.toList) == (a0.toList == a1.toList)) = true := by simpa using c24))
                clear c24
                obtain rfl := Option.some.inj H
                have hcz25_0 : wc.cell? ⟨gb101, 0, none⟩ = some (.string a2_0) := (blk_cell BK101.out 0).trans rfl
                have hcz25_1 : wc.cell? ⟨gb101, 1, none⟩ = some (.string a2_1) := (blk_cell BK101.out 1).trans rfl
                have hcz25_2 : wc.cell? ⟨gb101, 2, none⟩ = some (.string a2_2) := (blk_cell BK101.out 2).trans rfl
                have hcz25_3 : wc.cell? ⟨gb101, 3, none⟩ = some (.int .i64 a2_3) := (blk_cell BK101.out 3).trans rfl
                have hfz25_0 := blk_frozen BK101.out 0
                have hfz25_1 := blk_frozen BK101.out 1
                have hfz25_2 := blk_frozen BK101.out 2
                have hfz25_3 := blk_frozen BK101.out 3
                go_wp2_with (first | ((with_reducible refine gate_callee (f := 10) rfl ?_); refine goesL_ (some 35) rfl rfl Try.func10 (by kernel_rfl) rfl #[.string a0, .agg #[.string a2_0, .string a2_1, .string a2_2, .int .i64 a2_3]] rfl (by (try simp only [List.map_toArray, List.map_cons, List.map_nil]); first | done | rfl | (simp only [List.length_drop, List.length_take]; rfl)) ?_; (with_reducible refine (Given.seal_Lock.calls a0 a2_0 a2_1 a2_2 a2_3 t104 t105 _ A18.out).mono ?_); rintro e w26 ⟨rfl, hb⟩; refine ⟨_, rfl, ?_⟩; have n0_ := Aside0.mk (blk_below (g := gb101) (o := .cells #[.string a2_0, .string a2_1, .string a2_2, .int .i64 a2_3] 23 (0, 0)) (by (with_reducible repeat (first | refine blk_drewN ?_ _ | refine blk_drew ?_ | refine blk_alloc ?_ _)); exact BK101.out) hb); have n1_ := Aside0.mk (below_step (by repeat (first | (with_reducible first | exact HB.out | apply below_alloc | apply pw_below_drewN | apply below_drew1 | refine below_set ?_ GE101.out) | exact HB.out)) hb); clear BK101; clear HB; have BK101 := n0_; have HB := n1_; clear n0_ n1_; (try clear hb); (try clear hb2); (try clear hk); (try clear hi); have hcz27_0 : w26.cell? ⟨gb101, 0, none⟩ = some (.string a2_0) := (blk_cell BK101.out 0).trans rfl; have hcz27_1 : w26.cell? ⟨gb101, 1, none⟩ = some (.string a2_1) := (blk_cell BK101.out 1).trans rfl; have hcz27_2 : w26.cell? ⟨gb101, 2, none⟩ = some (.string a2_2) := (blk_cell BK101.out 2).trans rfl; have hcz27_3 : w26.cell? ⟨gb101, 3, none⟩ = some (.int .i64 a2_3) := (blk_cell BK101.out 3).trans rfl; have hfz27_0 := blk_frozen BK101.out 0; have hfz27_1 := blk_frozen BK101.out 1; have hfz27_2 := blk_frozen BK101.out 2; have hfz27_3 := blk_frozen BK101.out 3) | ((with_reducible refine gate_callee (f := 10) rfl ?_); refine goesL_ (some 41) rfl rfl Try.func10 (by kernel_rfl) rfl #[.string a1, .agg #[.string a2_0, .string a2_1, .string a2_2, .int .i64 a2_3]] rfl (by (try simp only [List.map_toArray, List.map_cons, List.map_nil]); first | done | rfl | (simp only [List.length_drop, List.length_take]; rfl)) ?_; (with_reducible refine (Given.seal_Lock.calls a1 a2_0 a2_1 a2_2 a2_3 t106 t107 _ A19.out).mono ?_); rintro e w28 ⟨rfl, hb⟩; refine ⟨_, rfl, ?_⟩; have n0_ := Aside0.mk (blk_below (g := gb101) (o := .cells #[.string a2_0, .string a2_1, .string a2_2, .int .i64 a2_3] 23 (0, 0)) (by (with_reducible repeat (first | refine blk_drewN ?_ _ | refine blk_drew ?_ | refine blk_alloc ?_ _)); exact BK101.out) hb); have n1_ := Aside0.mk (below_step (by repeat (first | (with_reducible first | exact HB.out | apply below_alloc | apply pw_below_drewN | apply below_drew1 | refine below_set ?_ GE101.out) | exact HB.out)) hb); clear BK101; clear HB; have BK101 := n0_; have HB := n1_; clear n0_ n1_; (try clear hb); (try clear hb2); (try clear hk); (try clear hi); have hcz29_0 : w28.cell? ⟨gb101, 0, none⟩ = some (.string a2_0) := (blk_cell BK101.out 0).trans rfl; have hcz29_1 : w28.cell? ⟨gb101, 1, none⟩ = some (.string a2_1) := (blk_cell BK101.out 1).trans rfl; have hcz29_2 : w28.cell? ⟨gb101, 2, none⟩ = some (.string a2_2) := (blk_cell BK101.out 2).trans rfl; have hcz29_3 : w28.cell? ⟨gb101, 3, none⟩ = some (.int .i64 a2_3) := (blk_cell BK101.out 3).trans rfl; have hfz29_0 := blk_frozen BK101.out 0; have hfz29_1 := blk_frozen BK101.out 1; have hfz29_2 := blk_frozen BK101.out 2; have hfz29_3 := blk_frozen BK101.out 3) | ((with_reducible refine gate_callee (f := 10) rfl ?_); refine goesL_ (some 47) rfl rfl Try.func10 (by kernel_rfl) rfl #[.string a0, .agg #[.string a2_0, .string a2_1, .string a2_2, .int .i64 a2_3]] rfl (by (try simp only [List.map_toArray, List.map_cons, List.map_nil]); first | done | rfl | (simp only [List.length_drop, List.length_take]; rfl)) ?_; (with_reducible refine (Given.seal_Lock.calls a0 a2_0 a2_1 a2_2 a2_3 t108 t109 _ A20.out).mono ?_); rintro e w30 ⟨rfl, hb⟩; refine ⟨_, rfl, ?_⟩; have n0_ := Aside0.mk (blk_below (g := gb101) (o := .cells #[.string a2_0, .string a2_1, .string a2_2, .int .i64 a2_3] 23 (0, 0)) (by (with_reducible repeat (first | refine blk_drewN ?_ _ | refine blk_drew ?_ | refine blk_alloc ?_ _)); exact BK101.out) hb); have n1_ := Aside0.mk (below_step (by repeat (first | (with_reducible first | exact HB.out | apply below_alloc | apply pw_below_drewN | apply below_drew1 | refine below_set ?_ GE101.out) | exact HB.out)) hb); clear BK101; clear HB; have BK101 := n0_; have HB := n1_; clear n0_ n1_; (try clear hb); (try clear hb2); (try clear hk); (try clear hi)))
                go_ret
                exact ⟨by first | rfl | (simp [errW_none, errW_some] <;> rfl) | (simp [*, errW_none, errW_some] <;> rfl), by repeat (first | (with_reducible first | exact HB.out | apply below_alloc | apply pw_below_drewN | apply below_drew1 | refine below_set ?_ GE101.out) | exact HB.out)⟩
              · rw [if_neg c24] at H
                have c24b0 : ((t104.toList == t106.toList) == (a0.toList == a1.toList)) = false := by simpa using c24
                (try (have c24b1 : decide ((t104.toList == t106.toList) = (a0.toList == a1.toList)) = false := by simpa using c24))
                (try (have c24b2 : ((t104.toList == t106.toList) == (a0.toList == a1.toList)) = false := by simpa using c24))
                (try (have c24b3 : ¬ ((t104.toList == t106.toList) = (a0.toList == a1.toList)) := by simpa using c24))
                clear c24
                exact absurd ((Option.some.inj H).trans hr_.out) Bool.false_ne_true
            · rw [if_neg c23] at H
              have c23b0 : (t105 == 0) = false := beq_eq_false_iff_ne.mpr c23
              have c23b1 : (t105 != 0) = true := bne_iff_ne.mpr c23
              by_cases c31 : t104.toList = ([] : List UInt8)
              · rw [if_pos c31] at H
                have c31b0 : (t104.toList == ([] : List UInt8)) = true := beq_iff_eq.mpr c31
                have c31b1 : (t104.toList != ([] : List UInt8)) = false := bne_eq_false_iff_eq.mpr c31
                clear c31
                by_cases c32 : t106.toList = ([] : List UInt8)
                · rw [if_pos c32] at H
                  have c32b0 : (t106.toList == ([] : List UInt8)) = true := beq_iff_eq.mpr c32
                  have c32b1 : (t106.toList != ([] : List UInt8)) = false := bne_eq_false_iff_eq.mpr c32
                  clear c32
                  obtain rfl := Option.some.inj H
                  have hcz33_0 : wc.cell? ⟨gb101, 0, none⟩ = some (.string a2_0) := (blk_cell BK101.out 0).trans rfl
                  have hcz33_1 : wc.cell? ⟨gb101, 1, none⟩ = some (.string a2_1) := (blk_cell BK101.out 1).trans rfl
                  have hcz33_2 : wc.cell? ⟨gb101, 2, none⟩ = some (.string a2_2) := (blk_cell BK101.out 2).trans rfl
                  have hcz33_3 : wc.cell? ⟨gb101, 3, none⟩ = some (.int .i64 a2_3) := (blk_cell BK101.out 3).trans rfl
                  have hfz33_0 := blk_frozen BK101.out 0
                  have hfz33_1 := blk_frozen BK101.out 1
                  have hfz33_2 := blk_frozen BK101.out 2
                  have hfz33_3 := blk_frozen BK101.out 3
                  go_wp2_with (first | ((with_reducible refine gate_callee (f := 10) rfl ?_); refine goesL_ (some 35) rfl rfl Try.func10 (by kernel_rfl) rfl #[.string a0, .agg #[.string a2_0, .string a2_1, .string a2_2, .int .i64 a2_3]] rfl (by (try simp only [List.map_toArray, List.map_cons, List.map_nil]); first | done | rfl | (simp only [List.length_drop, List.length_take]; rfl)) ?_; (with_reducible refine (Given.seal_Lock.calls a0 a2_0 a2_1 a2_2 a2_3 t104 t105 _ A18.out).mono ?_); rintro e w34 ⟨rfl, hb⟩; refine ⟨_, rfl, ?_⟩; have n0_ := Aside0.mk (blk_below (g := gb101) (o := .cells #[.string a2_0, .string a2_1, .string a2_2, .int .i64 a2_3] 23 (0, 0)) (by (with_reducible repeat (first | refine blk_drewN ?_ _ | refine blk_drew ?_ | refine blk_alloc ?_ _)); exact BK101.out) hb); have n1_ := Aside0.mk (below_step (by repeat (first | (with_reducible first | exact HB.out | apply below_alloc | apply pw_below_drewN | apply below_drew1 | refine below_set ?_ GE101.out) | exact HB.out)) hb); clear BK101; clear HB; have BK101 := n0_; have HB := n1_; clear n0_ n1_; (try clear hb); (try clear hb2); (try clear hk); (try clear hi); have hcz35_0 : w34.cell? ⟨gb101, 0, none⟩ = some (.string a2_0) := (blk_cell BK101.out 0).trans rfl; have hcz35_1 : w34.cell? ⟨gb101, 1, none⟩ = some (.string a2_1) := (blk_cell BK101.out 1).trans rfl; have hcz35_2 : w34.cell? ⟨gb101, 2, none⟩ = some (.string a2_2) := (blk_cell BK101.out 2).trans rfl; have hcz35_3 : w34.cell? ⟨gb101, 3, none⟩ = some (.int .i64 a2_3) := (blk_cell BK101.out 3).trans rfl; have hfz35_0 := blk_frozen BK101.out 0; have hfz35_1 := blk_frozen BK101.out 1; have hfz35_2 := blk_frozen BK101.out 2; have hfz35_3 := blk_frozen BK101.out 3) | ((with_reducible refine gate_callee (f := 10) rfl ?_); refine goesL_ (some 41) rfl rfl Try.func10 (by kernel_rfl) rfl #[.string a1, .agg #[.string a2_0, .string a2_1, .string a2_2, .int .i64 a2_3]] rfl (by (try simp only [List.map_toArray, List.map_cons, List.map_nil]); first | done | rfl | (simp only [List.length_drop, List.length_take]; rfl)) ?_; (with_reducible refine (Given.seal_Lock.calls a1 a2_0 a2_1 a2_2 a2_3 t106 t107 _ A19.out).mono ?_); rintro e w36 ⟨rfl, hb⟩; refine ⟨_, rfl, ?_⟩; have n0_ := Aside0.mk (blk_below (g := gb101) (o := .cells #[.string a2_0, .string a2_1, .string a2_2, .int .i64 a2_3] 23 (0, 0)) (by (with_reducible repeat (first | refine blk_drewN ?_ _ | refine blk_drew ?_ | refine blk_alloc ?_ _)); exact BK101.out) hb); have n1_ := Aside0.mk (below_step (by repeat (first | (with_reducible first | exact HB.out | apply below_alloc | apply pw_below_drewN | apply below_drew1 | refine below_set ?_ GE101.out) | exact HB.out)) hb); clear BK101; clear HB; have BK101 := n0_; have HB := n1_; clear n0_ n1_; (try clear hb); (try clear hb2); (try clear hk); (try clear hi); have hcz37_0 : w36.cell? ⟨gb101, 0, none⟩ = some (.string a2_0) := (blk_cell BK101.out 0).trans rfl; have hcz37_1 : w36.cell? ⟨gb101, 1, none⟩ = some (.string a2_1) := (blk_cell BK101.out 1).trans rfl; have hcz37_2 : w36.cell? ⟨gb101, 2, none⟩ = some (.string a2_2) := (blk_cell BK101.out 2).trans rfl; have hcz37_3 : w36.cell? ⟨gb101, 3, none⟩ = some (.int .i64 a2_3) := (blk_cell BK101.out 3).trans rfl; have hfz37_0 := blk_frozen BK101.out 0; have hfz37_1 := blk_frozen BK101.out 1; have hfz37_2 := blk_frozen BK101.out 2; have hfz37_3 := blk_frozen BK101.out 3) | ((with_reducible refine gate_callee (f := 10) rfl ?_); refine goesL_ (some 47) rfl rfl Try.func10 (by kernel_rfl) rfl #[.string a0, .agg #[.string a2_0, .string a2_1, .string a2_2, .int .i64 a2_3]] rfl (by (try simp only [List.map_toArray, List.map_cons, List.map_nil]); first | done | rfl | (simp only [List.length_drop, List.length_take]; rfl)) ?_; (with_reducible refine (Given.seal_Lock.calls a0 a2_0 a2_1 a2_2 a2_3 t108 t109 _ A20.out).mono ?_); rintro e w38 ⟨rfl, hb⟩; refine ⟨_, rfl, ?_⟩; have n0_ := Aside0.mk (blk_below (g := gb101) (o := .cells #[.string a2_0, .string a2_1, .string a2_2, .int .i64 a2_3] 23 (0, 0)) (by (with_reducible repeat (first | refine blk_drewN ?_ _ | refine blk_drew ?_ | refine blk_alloc ?_ _)); exact BK101.out) hb); have n1_ := Aside0.mk (below_step (by repeat (first | (with_reducible first | exact HB.out | apply below_alloc | apply pw_below_drewN | apply below_drew1 | refine below_set ?_ GE101.out) | exact HB.out)) hb); clear BK101; clear HB; have BK101 := n0_; have HB := n1_; clear n0_ n1_; (try clear hb); (try clear hb2); (try clear hk); (try clear hi)))
                  go_ret
                  exact ⟨by first | rfl | (simp [errW_none, errW_some] <;> rfl) | (simp [*, errW_none, errW_some] <;> rfl), by repeat (first | (with_reducible first | exact HB.out | apply below_alloc | apply pw_below_drewN | apply below_drew1 | refine below_set ?_ GE101.out) | exact HB.out)⟩
                · rw [if_neg c32] at H
                  have c32b0 : (t106.toList == ([] : List UInt8)) = false := beq_eq_false_iff_ne.mpr c32
                  have c32b1 : (t106.toList != ([] : List UInt8)) = true := bne_iff_ne.mpr c32
                  exact absurd ((Option.some.inj H).trans hr_.out) Bool.false_ne_true
              · rw [if_neg c31] at H
                have c31b0 : (t104.toList == ([] : List UInt8)) = false := beq_eq_false_iff_ne.mpr c31
                have c31b1 : (t104.toList != ([] : List UInt8)) = true := bne_iff_ne.mpr c31
                exact absurd ((Option.some.inj H).trans hr_.out) Bool.false_ne_true
          · rw [if_neg c22] at H
            have c22b0 : (t105 == t109) = false := beq_eq_false_iff_ne.mpr c22
            have c22b1 : (t105 != t109) = true := bne_iff_ne.mpr c22
            exact absurd ((Option.some.inj H).trans hr_.out) Bool.false_ne_true
        · rw [if_neg c21] at H
          have c21b0 : (t105 == t107) = false := beq_eq_false_iff_ne.mpr c21
          have c21b1 : (t105 != t107) = true := bne_iff_ne.mpr c21
          exact absurd ((Option.some.inj H).trans hr_.out) Bool.false_ne_true

end Go.Proofs.Ytdegeodegjmddaa.PSealOne
