/- The machine side of a law: printed by a program (wip/gprint.py over the kit's print), with the contracts of some functions proved by hand. Conditions: as each theorem names them. -/
import Derived.Test.YtfbcgpgpfpnpnaaPCbcFramex0
namespace Go.Proofs.Ytfbcgpgpfpnpnaa.PCbcFrame
open Go.RowKit Go.Proofs.YtfbcgpgpfpnpnaaW.PrintWords Go.Proofs.YtfbcgpgpfpnpnaaW.PrintLast Go.Proofs.YtfbcgpgpfpnpnaaW.PrintMore
attribute [local go_sem] max2_int min2_int max_two min_two max_three min_three max_four min_four   -- for this text's walks alone
set_option linter.unusedVariables false
set_option linter.unusedSimpArgs false

-- by hand: function 21 (hamperlaw10_awake)

-- by hand: function 26 (cbc_Frame)

/-! ### hamperlaw10_CbcFrame: function 13 -/
mutual
def hamperlaw10_CbcFrame.j0 : Nat → ByteArray → Bool → Option (Bool)
  | 0, _, _ => none
  | k + 1, x0, x13 => if x13 = true then ((Given.law10_awake.f).bind fun t102 => (some t102)) else ((Given.cbc_Frame.f x0).bind fun t103 => (if ((t103.size : Int) % 16) = 0 then (if (t103.size : Int) < (wrap64 ((x0.size : Int) + 8)) then (hamperlaw10_CbcFrame.j1 k x0 t103 true) else (if (t103.size : Int) ≥ (wrap64 ((x0.size : Int) + 24)) then (hamperlaw10_CbcFrame.j1 k x0 t103 true) else (if 8 ≤ (wrap64 (8 + (x0.size : Int))) then (if (wrap64 (8 + (x0.size : Int))) ≤ (t103.size : Int) then (hamperlaw10_CbcFrame.j1 k x0 t103 ((t103.extract 8 ((wrap64 (8 + (x0.size : Int))) : Int).toNat).toList != x0.toList)) else (none)) else (none)))) else (hamperlaw10_CbcFrame.j1 k x0 t103 true)))
def hamperlaw10_CbcFrame.j1 : Nat → ByteArray → ByteArray → Bool → Option (Bool)
  | 0, _, _, _ => none
  | k + 1, x0, x3, x45 => if x45 = true then (some false) else (hamperlaw10_CbcFrame.l0 k x0 x3 0 0)
def hamperlaw10_CbcFrame.l0 : Nat → ByteArray → ByteArray → Int → Int → Option (Bool)
  | 0, _, _, _, _ => none
  | k + 1, x0, x3, x4, x5 => if x5 < 8 then (if 0 ≤ x5 then (if x5 < (x3.size : Int) then (hamperlaw10_CbcFrame.l0 k x0 x3 (wrap64 ((wrap64 (x4 * 256)) + (wrap64 (bt x3 x5)))) (wrap64 (x5 + 1))) else (none)) else (none)) else (hamperlaw10_CbcFrame.l1 k x0 x3 x4 (wrap64 (8 + (x0.size : Int))))
def hamperlaw10_CbcFrame.l1 : Nat → ByteArray → ByteArray → Int → Int → Option (Bool)
  | 0, _, _, _, _ => none
  | k + 1, x0, x3, x4, x6 => if x6 < (x3.size : Int) then (if 0 ≤ x6 then (if (bt x3 x6) = 0 then (hamperlaw10_CbcFrame.l1 k x0 x3 x4 (wrap64 (x6 + 1))) else (some false)) else (none)) else (some (x4 == (x0.size : Int)))
end
def hamperlaw10_CbcFrame.f (k : Nat) (a0 : ByteArray) : Option (Bool) := if (a0.size : Int) > 70000 then (hamperlaw10_CbcFrame.j0 k a0 true) else ((Given.law10_awake.f).bind fun t101 => (hamperlaw10_CbcFrame.j0 k a0 (!t101)))
theorem hamperlaw10_CbcFrame.mono_l : ∀ k, (∀ y0 y1, LeO (hamperlaw10_CbcFrame.j0 k y0 y1) (hamperlaw10_CbcFrame.j0 (k + 1) y0 y1)) ∧ (∀ y0 y1 y2, LeO (hamperlaw10_CbcFrame.j1 k y0 y1 y2) (hamperlaw10_CbcFrame.j1 (k + 1) y0 y1 y2)) ∧ (∀ y0 y1 y2 y3, LeO (hamperlaw10_CbcFrame.l0 k y0 y1 y2 y3) (hamperlaw10_CbcFrame.l0 (k + 1) y0 y1 y2 y3)) ∧ (∀ y0 y1 y2 y3, LeO (hamperlaw10_CbcFrame.l1 k y0 y1 y2 y3) (hamperlaw10_CbcFrame.l1 (k + 1) y0 y1 y2 y3))
  | 0 => ⟨fun _ _ r h => by simp [hamperlaw10_CbcFrame.j0] at h, fun _ _ _ r h => by simp [hamperlaw10_CbcFrame.j1] at h, fun _ _ _ _ r h => by simp [hamperlaw10_CbcFrame.l0] at h, fun _ _ _ _ r h => by simp [hamperlaw10_CbcFrame.l1] at h⟩
  | k + 1 => by
    obtain ⟨ih0, ih1, ih2, ih3⟩ := hamperlaw10_CbcFrame.mono_l k
    refine ⟨?_, ?_, ?_, ?_⟩
    · intro y0 y1
      unfold hamperlaw10_CbcFrame.j0
      repeat' first
      | (with_reducible exact ih0 _ _)
      | (with_reducible exact ih1 _ _ _)
      | (with_reducible exact ih2 _ _ _ _)
      | (with_reducible exact ih3 _ _ _ _)
      | (with_reducible exact LeO.refl _)
      | (with_reducible exact LeO.none _)
      | (with_reducible refine LeO.ite ?_ ?_)
      | (with_reducible refine LeO.bind ?_ (fun _ => ?_))
      | exact ih0 _ _
      | exact ih1 _ _ _
      | exact ih2 _ _ _ _
      | exact ih3 _ _ _ _
      | exact LeO.none _
      | refine LeO.ite ?_ ?_
      | refine LeO.bind ?_ (fun _ => ?_)
    · intro y0 y1 y2
      unfold hamperlaw10_CbcFrame.j1
      repeat' first
      | (with_reducible exact ih0 _ _)
      | (with_reducible exact ih1 _ _ _)
      | (with_reducible exact ih2 _ _ _ _)
      | (with_reducible exact ih3 _ _ _ _)
      | (with_reducible exact LeO.refl _)
      | (with_reducible exact LeO.none _)
      | (with_reducible refine LeO.ite ?_ ?_)
      | (with_reducible refine LeO.bind ?_ (fun _ => ?_))
      | exact ih0 _ _
      | exact ih1 _ _ _
      | exact ih2 _ _ _ _
      | exact ih3 _ _ _ _
      | exact LeO.none _
      | refine LeO.ite ?_ ?_
      | refine LeO.bind ?_ (fun _ => ?_)
    · intro y0 y1 y2 y3
      unfold hamperlaw10_CbcFrame.l0
      repeat' first
      | (with_reducible exact ih0 _ _)
      | (with_reducible exact ih1 _ _ _)
      | (with_reducible exact ih2 _ _ _ _)
      | (with_reducible exact ih3 _ _ _ _)
      | (with_reducible exact LeO.refl _)
      | (with_reducible exact LeO.none _)
      | (with_reducible refine LeO.ite ?_ ?_)
      | (with_reducible refine LeO.bind ?_ (fun _ => ?_))
      | exact ih0 _ _
      | exact ih1 _ _ _
      | exact ih2 _ _ _ _
      | exact ih3 _ _ _ _
      | exact LeO.none _
      | refine LeO.ite ?_ ?_
      | refine LeO.bind ?_ (fun _ => ?_)
    · intro y0 y1 y2 y3
      unfold hamperlaw10_CbcFrame.l1
      repeat' first
      | (with_reducible exact ih0 _ _)
      | (with_reducible exact ih1 _ _ _)
      | (with_reducible exact ih2 _ _ _ _)
      | (with_reducible exact ih3 _ _ _ _)
      | (with_reducible exact LeO.refl _)
      | (with_reducible exact LeO.none _)
      | (with_reducible refine LeO.ite ?_ ?_)
      | (with_reducible refine LeO.bind ?_ (fun _ => ?_))
      | exact ih0 _ _
      | exact ih1 _ _ _
      | exact ih2 _ _ _ _
      | exact ih3 _ _ _ _
      | exact LeO.none _
      | refine LeO.ite ?_ ?_
      | refine LeO.bind ?_ (fun _ => ?_)
theorem hamperlaw10_CbcFrame.mono : ∀ a0 k, LeO (hamperlaw10_CbcFrame.f k a0) (hamperlaw10_CbcFrame.f (k + 1) a0) := by
  intro a0 k
  obtain ⟨ih0, ih1, ih2, ih3⟩ := hamperlaw10_CbcFrame.mono_l k
  unfold hamperlaw10_CbcFrame.f
  repeat' first
      | (with_reducible exact ih0 _ _)
      | (with_reducible exact ih1 _ _ _)
      | (with_reducible exact ih2 _ _ _ _)
      | (with_reducible exact ih3 _ _ _ _)
      | (with_reducible exact LeO.refl _)
      | (with_reducible exact LeO.none _)
      | (with_reducible refine LeO.ite ?_ ?_)
      | (with_reducible refine LeO.bind ?_ (fun _ => ?_))
      | exact ih0 _ _
      | exact ih1 _ _ _
      | exact ih2 _ _ _ _
      | exact ih3 _ _ _ _
      | exact LeO.none _
      | refine LeO.ite ?_ ?_
      | refine LeO.bind ?_ (fun _ => ?_)
set_option maxHeartbeats 8000000 in
set_option maxRecDepth 100000 in
theorem hamperlaw10_CbcFrame.calls (k : Nat) (a0 : ByteArray) (r : Bool) (w : World) (h : hamperlaw10_CbcFrame.f k a0 = some r) (hr_ : Aside0 (r = true)) :
    Calls Try.prog 13 #[.string a0] w fun e w' => e = .returned (.bool r) ∧ Below w.heap.size w w' := by
  have HB := Aside0.mk (Below.refl w.heap.size w)
  have H : (if (a0.size : Int) > 70000 then (hamperlaw10_CbcFrame.j0 k a0 true) else ((Given.law10_awake.f).bind fun t101 => (hamperlaw10_CbcFrame.j0 k a0 (!t101)))) = some r := h
  clear h
  have HC2 := Aside0.mk H
  clear H
  go_enter Try.func13, Try.ntmps13
  go_upto_region 1 with (fail)
  go_cut [13] (fun v13 wc => ∃ (kq : Nat) (x13_1 : Bool), v13 = .bool x13_1 ∧ Aside0 (hamperlaw10_CbcFrame.j0 kq a0 x13_1 = some r) ∧ Aside0 (kq ≤ k) ∧ Aside0 (Below w.heap.size w wc))
  case first =>
    have H := HC2.out
    clear HC2
    by_cases c3 : (a0.size : Int) > 70000
    · rw [if_pos c3] at H
      have c3b0 : decide (70000 < (a0.size : Int)) = true := decide_eq_true c3
      have c3b1 : decide (70000 < a0.size) = true := decide_eq_true (by omega)
      clear c3
      (first | rw [c3b0] | (simp only [i64_w, i32_w]; rw [c3b0]) | skip)
      have H' := Aside0.mk H
      clear H
      go_wp2
      go_meet
      case rel => exact ⟨_, (true), (by first | rfl | (simp; done) | (simp [*]; done)), H', ⟨by first | omega | exact Nat.le_refl _⟩, ⟨by repeat (first | (with_reducible first | exact HB.out | apply below_alloc | apply pw_below_drewN | apply below_drew1) | exact HB.out)⟩⟩
    · rw [if_neg c3] at H
      have c3b0 : decide (70000 < (a0.size : Int)) = false := decide_eq_false c3
      have c3b1 : decide (70000 < a0.size) = false := decide_eq_false (by omega)
      clear c3
      (first | rw [c3b0] | (simp only [i64_w, i32_w]; rw [c3b0]) | skip)
      replace H := Option.bind_eq_some_iff.mp H
      obtain ⟨t101, A40, H⟩ := H
      replace H : (hamperlaw10_CbcFrame.j0 k a0 (!t101)) = some r := H
      have A4 := Aside0.mk A40
      clear A40
      have H' := Aside0.mk H
      clear H
      go_wp2_with (first | (go_at_call 21; (with_reducible refine (Given.law10_awake.calls  t101 _ A4.out).mono ?_); rintro e w5 ⟨rfl, hb⟩; have n0_ := Aside0.mk (below_step (by repeat (first | (with_reducible first | exact HB.out | apply below_alloc | apply pw_below_drewN | apply below_drew1) | exact HB.out)) hb); clear HB; have HB := n0_; clear n0_; (try clear hb); (try clear hb2); (try clear hk); (try clear hi)))
      go_meet
      case rel => exact ⟨_, (!t101), (by first | rfl | (simp; done) | (simp [*]; done)), H', ⟨by first | omega | exact Nat.le_refl _⟩, ⟨by repeat (first | (with_reducible first | exact HB.out | apply below_alloc | apply pw_below_drewN | apply below_drew1) | exact HB.out)⟩⟩
  case rest =>
    clear HC2
    try clear c1
    try clear p2
    try clear c3
    try clear c3b0
    try clear c3b1
    obtain ⟨kq, x13_1, rfl, HA, HJ1, HB⟩ := hcut
    cases kq with
    | zero => exact absurd HA.out (by simp [hamperlaw10_CbcFrame.j0])
    | succ kj1 =>
      have H := HA.out
      clear HA
      simp only [hamperlaw10_CbcFrame.j0] at H
      by_cases c6 : x13_1 = true
      · subst c6
        have H1 : ((Given.law10_awake.f).bind fun t102 => (some t102)) = some r := by rw [if_pos rfl] at H; exact H
        clear H
        have H := H1
        clear H1
        replace H := Option.bind_eq_some_iff.mp H
        obtain ⟨t102, A70, H⟩ := H
        replace H : (some t102) = some r := H
        have A7 := Aside0.mk A70
        clear A70
        obtain rfl := Option.some.inj H
        go_wp2_with (first | ((with_reducible refine gate_callee (f := 21) rfl ?_); refine goesL_ (some 14) rfl rfl Try.func21 (by kernel_rfl) rfl #[] rfl (by (try simp only [List.map_toArray, List.map_cons, List.map_nil]); first | done | rfl | (simp only [List.length_drop, List.length_take]; rfl)) ?_; (with_reducible refine (Given.law10_awake.calls  t102 _ A7.out).mono ?_); rintro e w8 ⟨rfl, hb⟩; refine ⟨_, rfl, ?_⟩; have n0_ := Aside0.mk (below_step (by repeat (first | (with_reducible first | exact HB.out | apply below_alloc | apply pw_below_drewN | apply below_drew1) | exact HB.out)) hb); clear HB; have HB := n0_; clear n0_; (try clear hb); (try clear hb2); (try clear hk); (try clear hi)))
        go_ret
        exact ⟨by first | rfl | (simp [errW_none, errW_some] <;> rfl) | (simp [*, errW_none, errW_some] <;> rfl), by repeat (first | (with_reducible first | exact HB.out | apply below_alloc | apply pw_below_drewN | apply below_drew1) | exact HB.out)⟩
      · replace c6 := Bool.eq_false_iff.mpr c6
        subst c6
        have H1 : ((Given.cbc_Frame.f a0).bind fun t103 => (if ((t103.size : Int) % 16) = 0 then (if (t103.size : Int) < (wrap64 ((a0.size : Int) + 8)) then (hamperlaw10_CbcFrame.j1 kj1 a0 t103 true) else (if (t103.size : Int) ≥ (wrap64 ((a0.size : Int) + 24)) then (hamperlaw10_CbcFrame.j1 kj1 a0 t103 true) else (if 8 ≤ (wrap64 (8 + (a0.size : Int))) then (if (wrap64 (8 + (a0.size : Int))) ≤ (t103.size : Int) then (hamperlaw10_CbcFrame.j1 kj1 a0 t103 ((t103.extract 8 ((wrap64 (8 + (a0.size : Int))) : Int).toNat).toList != a0.toList)) else (none)) else (none)))) else (hamperlaw10_CbcFrame.j1 kj1 a0 t103 true))) = some r := by rw [if_neg (show ¬ (false = true) by decide)] at H; exact H
        clear H
        have H := H1
        clear H1
        replace H := Option.bind_eq_some_iff.mp H
        obtain ⟨t103, A90, H⟩ := H
        replace H : (if ((t103.size : Int) % 16) = 0 then (if (t103.size : Int) < (wrap64 ((a0.size : Int) + 8)) then (hamperlaw10_CbcFrame.j1 kj1 a0 t103 true) else (if (t103.size : Int) ≥ (wrap64 ((a0.size : Int) + 24)) then (hamperlaw10_CbcFrame.j1 kj1 a0 t103 true) else (if 8 ≤ (wrap64 (8 + (a0.size : Int))) then (if (wrap64 (8 + (a0.size : Int))) ≤ (t103.size : Int) then (hamperlaw10_CbcFrame.j1 kj1 a0 t103 ((t103.extract 8 ((wrap64 (8 + (a0.size : Int))) : Int).toNat).toList != a0.toList)) else (none)) else (none)))) else (hamperlaw10_CbcFrame.j1 kj1 a0 t103 true)) = some r := H
        have A9 := Aside0.mk A90
        clear A90
        have HC10 := Aside0.mk H
        clear H
        go_upto_region 4 with (first | ((with_reducible refine gate_callee (f := 26) rfl ?_); refine goesL_ (some 16) rfl rfl Try.func26 (by kernel_rfl) rfl #[.string a0] rfl (by (try simp only [List.map_toArray, List.map_cons, List.map_nil]); first | done | rfl | (simp only [List.length_drop, List.length_take]; rfl)) ?_; (with_reducible refine (Given.cbc_Frame.calls a0 t103 _ A9.out).mono ?_); rintro e w11 ⟨rfl, hb⟩; refine ⟨_, rfl, ?_⟩; have n0_ := Aside0.mk (below_step (by repeat (first | (with_reducible first | exact HB.out | apply below_alloc | apply pw_below_drewN | apply below_drew1) | exact HB.out)) hb); clear HB; have HB := n0_; clear n0_; (try clear hb); (try clear hb2); (try clear hk); (try clear hi)))
        (try simp only [Act.put, List.setIfInBounds_toArray, List.set_cons_zero, List.set_cons_succ])
        go_cut [45] (fun v45 wc => ∃ (kq : Nat) (x45_9 : Bool), v45 = .bool x45_9 ∧ Aside0 (hamperlaw10_CbcFrame.j1 kq a0 t103 x45_9 = some r) ∧ Aside0 (kq ≤ kj1) ∧ Aside0 (Below w.heap.size w wc))
        case first =>
          have H := HC10.out
          clear HC10
          by_cases c12 : ((t103.size : Int) % 16) = 0
          · rw [if_pos c12] at H
            have c12b0 : (((t103.size : Int) % 16) == 0) = true := beq_iff_eq.mpr c12
            have c12b1 : (((t103.size : Int) % 16) != 0) = false := bne_eq_false_iff_eq.mpr c12
            clear c12
            (first | rw [c12b0] | (simp only [i64_w, i32_w]; rw [c12b0]) | skip)
            by_cases c13 : (t103.size : Int) < (wrap64 ((a0.size : Int) + 8))
            · rw [if_pos c13] at H
              have c13b0 : decide ((t103.size : Int) < (wrap64 ((a0.size : Int) + 8))) = true := decide_eq_true c13
              clear c13
              have H' := Aside0.mk H
              clear H
              go_wp2
              go_meet
              case rel => exact ⟨_, (true), (by first | rfl | (simp; done) | (simp [*]; done)), H', ⟨by have := HJ1.out; first | omega | exact Nat.le_refl _⟩, ⟨by repeat (first | (with_reducible first | exact HB.out | apply below_alloc | apply pw_below_drewN | apply below_drew1) | exact HB.out)⟩⟩
            · rw [if_neg c13] at H
              have c13b0 : decide ((t103.size : Int) < (wrap64 ((a0.size : Int) + 8))) = false := decide_eq_false c13
              clear c13
              by_cases c14 : (t103.size : Int) ≥ (wrap64 ((a0.size : Int) + 24))
              · rw [if_pos c14] at H
                have c14b0 : decide ((wrap64 ((a0.size : Int) + 24)) ≤ (t103.size : Int)) = true := decide_eq_true c14
                clear c14
                have H' := Aside0.mk H
                clear H
                go_wp2
                go_meet
                case rel => exact ⟨_, (true), (by first | rfl | (simp; done) | (simp [*]; done)), H', ⟨by have := HJ1.out; first | omega | exact Nat.le_refl _⟩, ⟨by repeat (first | (with_reducible first | exact HB.out | apply below_alloc | apply pw_below_drewN | apply below_drew1) | exact HB.out)⟩⟩
              · rw [if_neg c14] at H
                have c14b0 : decide ((wrap64 ((a0.size : Int) + 24)) ≤ (t103.size : Int)) = false := decide_eq_false c14
                clear c14
                by_cases c15 : 8 ≤ (wrap64 (8 + (a0.size : Int)))
                · rw [if_pos c15] at H
                  have c15b0 := eq_true c15
                  have c15b1 : decide (8 ≤ (wrap64 (8 + (a0.size : Int)))) = true := decide_eq_true c15
                  by_cases c16 : (wrap64 (8 + (a0.size : Int))) ≤ (t103.size : Int)
                  · rw [if_pos c16] at H
                    have c16b0 := eq_true c16
                    have c16b1 : decide ((wrap64 (8 + (a0.size : Int))) ≤ (t103.size : Int)) = true := decide_eq_true c16
                    have H' := Aside0.mk H
                    clear H
                    go_wp2
                    go_meet
                    case rel => exact ⟨_, (((t103.extract 8 ((wrap64 (8 + (a0.size : Int))) : Int).toNat).toList != a0.toList)), (by first | rfl | (simp; done) | (simp [*]; done)), H', ⟨by have := HJ1.out; first | omega | exact Nat.le_refl _⟩, ⟨by repeat (first | (with_reducible first | exact HB.out | apply below_alloc | apply pw_below_drewN | apply below_drew1) | exact HB.out)⟩⟩
                  · rw [if_neg c16] at H
                    exact absurd H (by simp)
                · rw [if_neg c15] at H
                  exact absurd H (by simp)
          · rw [if_neg c12] at H
            have c12b0 : (((t103.size : Int) % 16) == 0) = false := beq_eq_false_iff_ne.mpr c12
            have c12b1 : (((t103.size : Int) % 16) != 0) = true := bne_iff_ne.mpr c12
            (first | rw [c12b0] | (simp only [i64_w, i32_w]; rw [c12b0]) | skip)
            have H' := Aside0.mk H
            clear H
            go_wp2
            go_meet
            case rel => exact ⟨_, (true), (by first | rfl | (simp; done) | (simp [*]; done)), H', ⟨by have := HJ1.out; first | omega | exact Nat.le_refl _⟩, ⟨by repeat (first | (with_reducible first | exact HB.out | apply below_alloc | apply pw_below_drewN | apply below_drew1) | exact HB.out)⟩⟩
        case rest =>
          clear HC10
          try clear c1
          try clear c2
          try clear p2
          try clear c3
          try clear c3b0
          try clear c3b1
          try clear c6
          try clear p6
          try clear c12
          try clear c12b0
          try clear c12b1
          try clear c13
          try clear c13b0
          try clear c14
          try clear c14b0
          try clear c15
          try clear c15b0
          try clear c15b1
          try clear c16
          try clear c16b0
          try clear c16b1
          try clear p2
          obtain ⟨kq, x45_9, rfl, HA, HJ9, HB⟩ := hcut
          cases kq with
          | zero => exact absurd HA.out (by simp [hamperlaw10_CbcFrame.j1])
          | succ kj9 =>
            have H := HA.out
            clear HA
            simp only [hamperlaw10_CbcFrame.j1] at H
            by_cases c17 : x45_9 = true
            · subst c17
              have H1 : (some false) = some r := by rw [if_pos rfl] at H; exact H
              clear H
              have H := H1
              clear H1
              exact absurd ((Option.some.inj H).trans hr_.out) Bool.false_ne_true
            · replace c17 := Bool.eq_false_iff.mpr c17
              subst c17
              have H1 : (hamperlaw10_CbcFrame.l0 kj9 a0 t103 0 0) = some r := by rw [if_neg (show ¬ (false = true) by decide)] at H; exact H
              clear H
              have H := H1
              clear H1
              have H' := Aside0.mk H
              clear H
              go_wp2
              go_loopg [4, 5] kj9 (fun kq v4 v5 w' => ∃ (x4_3 : Int) (x5_3 : Int), v4 = .int .i64 x4_3 ∧ v5 = .int .i64 x5_3 ∧ Aside0 (hamperlaw10_CbcFrame.l0 kq a0 t103 x4_3 x5_3 = some r) ∧ Aside0 (kq ≤ kj9) ∧ Aside0 (Below w.heap.size w w'))
              case atStart => exact ⟨(0), (0), (by first | rfl | (simp; done) | (simp [*]; done)), (by first | rfl | (simp; done) | (simp [*]; done)), H', ⟨Nat.le_refl _⟩, ⟨by repeat (first | (with_reducible first | exact HB.out | apply below_alloc | apply pw_below_drewN | apply below_drew1) | exact HB.out)⟩⟩
              case round =>
                clear H'
                try clear c1
                try clear c2
                try clear p2
                try clear c3
                try clear c3b0
                try clear c3b1
                try clear c6
                try clear p6
                try clear c12
                try clear c12b0
                try clear c12b1
                try clear c13
                try clear c13b0
                try clear c14
                try clear c14b0
                try clear c15
                try clear c15b0
                try clear c15b1
                try clear c16
                try clear c16b0
                try clear c16b1
                try clear c17
                try clear p2
                try clear p6
                obtain ⟨x4_3, x5_3, rfl, rfl, HA, HK3, HB⟩ := hrel
                cases gk with
                | zero => exact absurd HA.out (by simp [hamperlaw10_CbcFrame.l0])
                | succ k3 =>
                  have H := HA.out
                  clear HA
                  simp only [hamperlaw10_CbcFrame.l0] at H
                  by_cases c18 : x5_3 < 8
                  · rw [if_pos c18] at H
                    have c18b0 : decide (x5_3 < 8) = true := decide_eq_true c18
                    clear c18
                    by_cases c19 : 0 ≤ x5_3
                    · rw [if_pos c19] at H
                      have c19b0 : decide (0 ≤ x5_3) = true := decide_eq_true c19
                      clear c19
                      by_cases c20 : x5_3 < (t103.size : Int)
                      · rw [if_pos c20] at H
                        have c20b0 : decide (x5_3 < (t103.size : Int)) = true := decide_eq_true c20
                        clear c20
                        have H' := Aside0.mk H
                        clear H
                        have p21 : 0 ≤ (x5_3 : Int) := of_decide_eq_true (by first | (with_reducible assumption) | assumption)
                        have q21 : x5_3 < (t103.size : Int) := of_decide_eq_true (by first | (with_reducible assumption) | assumption)
                        have hx21 := bt_at t103 x5_3
                        replace p21 := eq_true p21
                        replace q21 := eq_true q21
                        go_wp2
                        go_roundg k3
                        case measure => have := HJ1.out; have := HJ9.out; have := HK3.out; omega
                        case rel => exact ⟨(wrap64 ((wrap64 (x4_3 * 256)) + (wrap64 (bt t103 x5_3)))), (wrap64 (x5_3 + 1)), (by first | rfl | (simp; done) | (simp [*]; done)), (by first | rfl | (simp; done) | (simp [*]; done)), H', ⟨by have := HJ1.out; have := HJ9.out; have := HK3.out; omega⟩, ⟨by repeat (first | (with_reducible first | exact HB.out | apply below_alloc | apply pw_below_drewN | apply below_drew1) | exact HB.out)⟩⟩
                      · rw [if_neg c20] at H
                        exact absurd H (by simp)
                    · rw [if_neg c19] at H
                      exact absurd H (by simp)
                  · rw [if_neg c18] at H
                    have c18b0 : decide (x5_3 < 8) = false := decide_eq_false c18
                    clear c18
                    have H' := Aside0.mk H
                    clear H
                    go_wp2
                    go_loopg [6] k3 (fun kq v6 w' => ∃ (x6_4 : Int), v6 = .int .i64 x6_4 ∧ Aside0 (hamperlaw10_CbcFrame.l1 kq a0 t103 x4_3 x6_4 = some r) ∧ Aside0 (kq ≤ k3) ∧ Aside0 (Below w.heap.size w w'))
                    case atStart => exact ⟨(wrap64 (8 + (a0.size : Int))), (by first | rfl | (simp; done) | (simp [*]; done)), H', ⟨Nat.le_refl _⟩, ⟨by repeat (first | (with_reducible first | exact HB.out | apply below_alloc | apply pw_below_drewN | apply below_drew1) | exact HB.out)⟩⟩
                    case round =>
                      clear H'
                      try clear c1
                      try clear c2
                      try clear p2
                      try clear q2
                      try clear hx2
                      try clear c3
                      try clear c3b0
                      try clear c3b1
                      try clear c6
                      try clear p6
                      try clear c12
                      try clear c12b0
                      try clear c12b1
                      try clear c13
                      try clear c13b0
                      try clear c14
                      try clear c14b0
                      try clear c15
                      try clear c15b0
                      try clear c15b1
                      try clear c16
                      try clear c16b0
                      try clear c16b1
                      try clear c17
                      try clear c18
                      try clear c18b0
                      try clear c19
                      try clear c19b0
                      try clear c20
                      try clear c20b0
                      try clear c21
                      try clear p21
                      try clear q21
                      try clear hx21
                      try clear p2
                      try clear p21
                      try clear p6
                      try clear q21
                      obtain ⟨x6_4, rfl, HA, HK4, HB⟩ := hrel
                      cases gk with
                      | zero => exact absurd HA.out (by simp [hamperlaw10_CbcFrame.l1])
                      | succ k4 =>
                        have H := HA.out
                        clear HA
                        simp only [hamperlaw10_CbcFrame.l1] at H
                        by_cases c22 : x6_4 < (t103.size : Int)
                        · rw [if_pos c22] at H
                          have c22b0 : decide (x6_4 < (t103.size : Int)) = true := decide_eq_true c22
                          clear c22
                          by_cases c23 : 0 ≤ x6_4
                          · rw [if_pos c23] at H
                            have c23b0 : decide (0 ≤ x6_4) = true := decide_eq_true c23
                            clear c23
                            by_cases c25 : (bt t103 x6_4) = 0
                            · rw [if_pos c25] at H
                              have c25b0 : ((bt t103 x6_4) == 0) = true := beq_iff_eq.mpr c25
                              have c25b1 : ((bt t103 x6_4) != 0) = false := bne_eq_false_iff_eq.mpr c25
                              clear c25
                              have H' := Aside0.mk H
                              clear H
                              have p24 : 0 ≤ (x6_4 : Int) := of_decide_eq_true (by first | (with_reducible assumption) | assumption)
                              have q24 : x6_4 < (t103.size : Int) := of_decide_eq_true (by first | (with_reducible assumption) | assumption)
                              have hx24 := bt_at t103 x6_4
                              replace p24 := eq_true p24
                              replace q24 := eq_true q24
                              go_wp2
                              go_roundg k4
                              case measure => have := HJ1.out; have := HJ9.out; have := HK3.out; have := HK4.out; omega
                              case rel => exact ⟨(wrap64 (x6_4 + 1)), (by first | rfl | (simp; done) | (simp [*]; done)), H', ⟨by have := HJ1.out; have := HJ9.out; have := HK3.out; have := HK4.out; omega⟩, ⟨by repeat (first | (with_reducible first | exact HB.out | apply below_alloc | apply pw_below_drewN | apply below_drew1) | exact HB.out)⟩⟩
                            · rw [if_neg c25] at H
                              have c25b0 : ((bt t103 x6_4) == 0) = false := beq_eq_false_iff_ne.mpr c25
                              have c25b1 : ((bt t103 x6_4) != 0) = true := bne_iff_ne.mpr c25
                              exact absurd ((Option.some.inj H).trans hr_.out) Bool.false_ne_true
                          · rw [if_neg c23] at H
                            exact absurd H (by simp)
                        · rw [if_neg c22] at H
                          have c22b0 : decide (x6_4 < (t103.size : Int)) = false := decide_eq_false c22
                          clear c22
                          obtain rfl := Option.some.inj H
                          go_wp2
                          go_ret
                          exact ⟨by first | rfl | (simp [errW_none, errW_some] <;> rfl) | (simp [*, errW_none, errW_some] <;> rfl), by repeat (first | (with_reducible first | exact HB.out | apply below_alloc | apply pw_below_drewN | apply below_drew1) | exact HB.out)⟩

/-- THE ONE PURE STATEMENT of hamperlaw10_CbcFrame: yours. -/
def hamperlaw10_CbcFrame.Pure : Prop := ∀ (a0 : ByteArray), a0.size ≤ 140737488351232 → ∃ k, hamperlaw10_CbcFrame.f k a0 = some true
theorem hamperlaw10_CbcFrame.walk (P : hamperlaw10_CbcFrame.Pure) (a0 : ByteArray) (w : World) (w0 : a0.size ≤ 140737488351232) :
    Calls Try.prog 13 #[.string a0] w fun e w' => e = .returned (.bool true) ∧ Below w.heap.size w w' := by
  obtain ⟨k, h⟩ := P a0 w0
  refine (hamperlaw10_CbcFrame.calls k a0 true w h ⟨rfl⟩).mono ?_
  rintro e w' ⟨rfl, hd⟩
  exact ⟨rfl, hd⟩

end Go.Proofs.Ytfbcgpgpfpnpnaa.PCbcFrame
