/- The machine side of a law: printed by a program (wip/gprint.py over the kit's print), with the contracts of some functions proved by hand. Conditions: as each theorem names them. -/
import Derived.Test.YtfbcgpgpfpnpnaaPCbcBackx0
namespace Go.Proofs.Ytfbcgpgpfpnpnaa.PCbcBack
open Go.RowKit Go.Proofs.YtfbcgpgpfpnpnaaW.PrintWords Go.Proofs.YtfbcgpgpfpnpnaaW.PrintLast Go.Proofs.YtfbcgpgpfpnpnaaW.PrintMore
attribute [local go_sem] max2_int min2_int max_two min_two max_three min_three max_four min_four   -- for this text's walks alone
set_option linter.unusedVariables false
set_option linter.unusedSimpArgs false

-- by hand: function 21 (hamperlaw10_awake)

-- by hand: function 22 (cbc_Seal)

-- by hand: function 24 (cbc_Open)

-- by hand: function 26 (cbc_Frame)

/-! ### hamperlaw10_CbcBack: function 10 -/
mutual
def hamperlaw10_CbcBack.j0 : Nat → ByteArray → ByteArray → ByteArray → ByteArray → Bool → Option (Bool)
  | 0, _, _, _, _, _ => none
  | k + 1, x0, x1, x2, x3, x37 => if x37 = true then ((Given.law10_awake.f).bind fun t102 => (some t102)) else ((Given.cbc_Seal.f x0 x1 x2).bind fun bt103 => (if bt103.2 = 0 then ((Given.cbc_Open.f x0 x1 bt103.1).bind fun bt105 => (if bt105.2 = 0 then (if bt105.1.toList = x2.toList then ((Given.cbc_Frame.f x2).bind fun t107 => (hamperlaw10_CbcBack.j1 k x0 x1 x3 bt103.1 ((bt103.1.size : Int) != (t107.size : Int)))) else (hamperlaw10_CbcBack.j1 k x0 x1 x3 bt103.1 true)) else (hamperlaw10_CbcBack.j1 k x0 x1 x3 bt103.1 true))) else (if (bt103.1.size : Int) = 0 then (if (x0.size : Int) = 32 then (some ((x1.size : Int) != 16)) else (some true)) else (some false))))
def hamperlaw10_CbcBack.j1 : Nat → ByteArray → ByteArray → ByteArray → ByteArray → Bool → Option (Bool)
  | 0, _, _, _, _, _ => none
  | k + 1, x0, x1, x3, x9, x82 => if x82 = true then (some false) else (if 0 ≤ (wrap64 ((x9.size : Int) - 16)) then (if (wrap64 ((x9.size : Int) - 16)) ≤ (x9.size : Int) then ((Given.cbc_Open.f x0 x1 (x9.extract 0 ((wrap64 ((x9.size : Int) - 16)) : Int).toNat)).bind fun bt108 => (if bt108.2 = 4 then ((Given.cbc_Open.f x0 x1 x3).bind fun bt110 => (if bt110.2 = 0 then ((Given.cbc_Seal.f x0 x1 bt110.1).bind fun bt112 => (if bt112.2 = 0 then (some (bt112.1.toList == x3.toList)) else (some false))) else (some ((bt110.1.size : Int) == 0)))) else (some false))) else (none)) else (none))
end
def hamperlaw10_CbcBack.f (k : Nat) (a0 : ByteArray) (a1 : ByteArray) (a2 : ByteArray) (a3 : ByteArray) : Option (Bool) := if (a0.size : Int) > 100 then (hamperlaw10_CbcBack.j0 k a0 a1 a2 a3 true) else (if (a1.size : Int) > 100 then (hamperlaw10_CbcBack.j0 k a0 a1 a2 a3 true) else (if (a2.size : Int) > 600 then (hamperlaw10_CbcBack.j0 k a0 a1 a2 a3 true) else (if (a3.size : Int) > 600 then (hamperlaw10_CbcBack.j0 k a0 a1 a2 a3 true) else ((Given.law10_awake.f).bind fun t101 => (hamperlaw10_CbcBack.j0 k a0 a1 a2 a3 (!t101))))))
theorem hamperlaw10_CbcBack.mono_l : ∀ k, (∀ y0 y1 y2 y3 y4, LeO (hamperlaw10_CbcBack.j0 k y0 y1 y2 y3 y4) (hamperlaw10_CbcBack.j0 (k + 1) y0 y1 y2 y3 y4)) ∧ (∀ y0 y1 y2 y3 y4, LeO (hamperlaw10_CbcBack.j1 k y0 y1 y2 y3 y4) (hamperlaw10_CbcBack.j1 (k + 1) y0 y1 y2 y3 y4))
  | 0 => ⟨fun _ _ _ _ _ r h => by simp [hamperlaw10_CbcBack.j0] at h, fun _ _ _ _ _ r h => by simp [hamperlaw10_CbcBack.j1] at h⟩
  | k + 1 => by
    obtain ⟨ih0, ih1⟩ := hamperlaw10_CbcBack.mono_l k
    refine ⟨?_, ?_⟩
    · intro y0 y1 y2 y3 y4
      unfold hamperlaw10_CbcBack.j0
      repeat' first
      | (with_reducible exact ih0 _ _ _ _ _)
      | (with_reducible exact ih1 _ _ _ _ _)
      | (with_reducible exact LeO.refl _)
      | (with_reducible exact LeO.none _)
      | (with_reducible refine LeO.ite ?_ ?_)
      | (with_reducible refine LeO.bind ?_ (fun _ => ?_))
      | exact ih0 _ _ _ _ _
      | exact ih1 _ _ _ _ _
      | exact LeO.none _
      | refine LeO.ite ?_ ?_
      | refine LeO.bind ?_ (fun _ => ?_)
    · intro y0 y1 y2 y3 y4
      unfold hamperlaw10_CbcBack.j1
      repeat' first
      | (with_reducible exact ih0 _ _ _ _ _)
      | (with_reducible exact ih1 _ _ _ _ _)
      | (with_reducible exact LeO.refl _)
      | (with_reducible exact LeO.none _)
      | (with_reducible refine LeO.ite ?_ ?_)
      | (with_reducible refine LeO.bind ?_ (fun _ => ?_))
      | exact ih0 _ _ _ _ _
      | exact ih1 _ _ _ _ _
      | exact LeO.none _
      | refine LeO.ite ?_ ?_
      | refine LeO.bind ?_ (fun _ => ?_)
theorem hamperlaw10_CbcBack.mono : ∀ a0 a1 a2 a3 k, LeO (hamperlaw10_CbcBack.f k a0 a1 a2 a3) (hamperlaw10_CbcBack.f (k + 1) a0 a1 a2 a3) := by
  intro a0 a1 a2 a3 k
  obtain ⟨ih0, ih1⟩ := hamperlaw10_CbcBack.mono_l k
  unfold hamperlaw10_CbcBack.f
  repeat' first
      | (with_reducible exact ih0 _ _ _ _ _)
      | (with_reducible exact ih1 _ _ _ _ _)
      | (with_reducible exact LeO.refl _)
      | (with_reducible exact LeO.none _)
      | (with_reducible refine LeO.ite ?_ ?_)
      | (with_reducible refine LeO.bind ?_ (fun _ => ?_))
      | exact ih0 _ _ _ _ _
      | exact ih1 _ _ _ _ _
      | exact LeO.none _
      | refine LeO.ite ?_ ?_
      | refine LeO.bind ?_ (fun _ => ?_)
set_option maxHeartbeats 8000000 in
set_option maxRecDepth 100000 in
theorem hamperlaw10_CbcBack.calls (k : Nat) (a0 : ByteArray) (a1 : ByteArray) (a2 : ByteArray) (a3 : ByteArray) (r : Bool) (w : World) (h : hamperlaw10_CbcBack.f k a0 a1 a2 a3 = some r) (hr_ : Aside0 (r = true)) :
    Calls Try.prog 10 #[.string a0, .string a1, .string a2, .string a3] w fun e w' => e = .returned (.bool r) ∧ Below w.heap.size w w' := by
  have HB := Aside0.mk (Below.refl w.heap.size w)
  have H : (if (a0.size : Int) > 100 then (hamperlaw10_CbcBack.j0 k a0 a1 a2 a3 true) else (if (a1.size : Int) > 100 then (hamperlaw10_CbcBack.j0 k a0 a1 a2 a3 true) else (if (a2.size : Int) > 600 then (hamperlaw10_CbcBack.j0 k a0 a1 a2 a3 true) else (if (a3.size : Int) > 600 then (hamperlaw10_CbcBack.j0 k a0 a1 a2 a3 true) else ((Given.law10_awake.f).bind fun t101 => (hamperlaw10_CbcBack.j0 k a0 a1 a2 a3 (!t101))))))) = some r := h
  clear h
  have HC5 := Aside0.mk H
  clear H
  go_enter Try.func10, Try.ntmps10
  go_upto_region 1 with (fail)
  go_cut [37] (fun v37 wc => ∃ (kq : Nat) (x37_4 : Bool), v37 = .bool x37_4 ∧ Aside0 (hamperlaw10_CbcBack.j0 kq a0 a1 a2 a3 x37_4 = some r) ∧ Aside0 (kq ≤ k) ∧ Aside0 (Below w.heap.size w wc))
  case first =>
    have H := HC5.out
    clear HC5
    by_cases c6 : (a0.size : Int) > 100
    · rw [if_pos c6] at H
      have c6b0 : decide (100 < (a0.size : Int)) = true := decide_eq_true c6
      have c6b1 : decide (100 < a0.size) = true := decide_eq_true (by omega)
      clear c6
      (first | rw [c6b0] | (simp only [i64_w, i32_w]; rw [c6b0]) | skip)
      have H' := Aside0.mk H
      clear H
      go_wp2
      go_meet
      case rel => exact ⟨_, (true), (by first | rfl | (simp; done) | (simp [*]; done)), H', ⟨by first | omega | exact Nat.le_refl _⟩, ⟨by repeat (first | (with_reducible first | exact HB.out | apply below_alloc | apply pw_below_drewN | apply below_drew1) | exact HB.out)⟩⟩
    · rw [if_neg c6] at H
      have c6b0 : decide (100 < (a0.size : Int)) = false := decide_eq_false c6
      have c6b1 : decide (100 < a0.size) = false := decide_eq_false (by omega)
      clear c6
      (first | rw [c6b0] | (simp only [i64_w, i32_w]; rw [c6b0]) | skip)
      by_cases c7 : (a1.size : Int) > 100
      · rw [if_pos c7] at H
        have c7b0 : decide (100 < (a1.size : Int)) = true := decide_eq_true c7
        have c7b1 : decide (100 < a1.size) = true := decide_eq_true (by omega)
        clear c7
        have H' := Aside0.mk H
        clear H
        go_wp2
        go_meet
        case rel => exact ⟨_, (true), (by first | rfl | (simp; done) | (simp [*]; done)), H', ⟨by first | omega | exact Nat.le_refl _⟩, ⟨by repeat (first | (with_reducible first | exact HB.out | apply below_alloc | apply pw_below_drewN | apply below_drew1) | exact HB.out)⟩⟩
      · rw [if_neg c7] at H
        have c7b0 : decide (100 < (a1.size : Int)) = false := decide_eq_false c7
        have c7b1 : decide (100 < a1.size) = false := decide_eq_false (by omega)
        clear c7
        by_cases c8 : (a2.size : Int) > 600
        · rw [if_pos c8] at H
          have c8b0 : decide (600 < (a2.size : Int)) = true := decide_eq_true c8
          have c8b1 : decide (600 < a2.size) = true := decide_eq_true (by omega)
          clear c8
          have H' := Aside0.mk H
          clear H
          go_wp2
          go_meet
          case rel => exact ⟨_, (true), (by first | rfl | (simp; done) | (simp [*]; done)), H', ⟨by first | omega | exact Nat.le_refl _⟩, ⟨by repeat (first | (with_reducible first | exact HB.out | apply below_alloc | apply pw_below_drewN | apply below_drew1) | exact HB.out)⟩⟩
        · rw [if_neg c8] at H
          have c8b0 : decide (600 < (a2.size : Int)) = false := decide_eq_false c8
          have c8b1 : decide (600 < a2.size) = false := decide_eq_false (by omega)
          clear c8
          by_cases c9 : (a3.size : Int) > 600
          · rw [if_pos c9] at H
            have c9b0 : decide (600 < (a3.size : Int)) = true := decide_eq_true c9
            have c9b1 : decide (600 < a3.size) = true := decide_eq_true (by omega)
            clear c9
            have H' := Aside0.mk H
            clear H
            go_wp2
            go_meet
            case rel => exact ⟨_, (true), (by first | rfl | (simp; done) | (simp [*]; done)), H', ⟨by first | omega | exact Nat.le_refl _⟩, ⟨by repeat (first | (with_reducible first | exact HB.out | apply below_alloc | apply pw_below_drewN | apply below_drew1) | exact HB.out)⟩⟩
          · rw [if_neg c9] at H
            have c9b0 : decide (600 < (a3.size : Int)) = false := decide_eq_false c9
            have c9b1 : decide (600 < a3.size) = false := decide_eq_false (by omega)
            clear c9
            replace H := Option.bind_eq_some_iff.mp H
            obtain ⟨t101, A100, H⟩ := H
            replace H : (hamperlaw10_CbcBack.j0 k a0 a1 a2 a3 (!t101)) = some r := H
            have A10 := Aside0.mk A100
            clear A100
            have H' := Aside0.mk H
            clear H
            go_wp2_with (first | (go_at_call 21; (with_reducible refine (Given.law10_awake.calls  t101 _ A10.out).mono ?_); rintro e w11 ⟨rfl, hb⟩; have n0_ := Aside0.mk (below_step (by repeat (first | (with_reducible first | exact HB.out | apply below_alloc | apply pw_below_drewN | apply below_drew1) | exact HB.out)) hb); clear HB; have HB := n0_; clear n0_; (try clear hb); (try clear hb2); (try clear hk); (try clear hi)))
            go_meet
            case rel => exact ⟨_, (!t101), (by first | rfl | (simp; done) | (simp [*]; done)), H', ⟨by first | omega | exact Nat.le_refl _⟩, ⟨by repeat (first | (with_reducible first | exact HB.out | apply below_alloc | apply pw_below_drewN | apply below_drew1) | exact HB.out)⟩⟩
  case rest =>
    clear HC5
    try clear c1
    try clear p2
    try clear c6
    try clear c6b0
    try clear c6b1
    try clear c7
    try clear c7b0
    try clear c7b1
    try clear c8
    try clear c8b0
    try clear c8b1
    try clear c9
    try clear c9b0
    try clear c9b1
    try clear c10
    obtain ⟨kq, x37_4, rfl, HA, HJ4, HB⟩ := hcut
    cases kq with
    | zero => exact absurd HA.out (by simp [hamperlaw10_CbcBack.j0])
    | succ kj4 =>
      have H := HA.out
      clear HA
      simp only [hamperlaw10_CbcBack.j0] at H
      by_cases c12 : x37_4 = true
      · subst c12
        have H1 : ((Given.law10_awake.f).bind fun t102 => (some t102)) = some r := by rw [if_pos rfl] at H; exact H
        clear H
        have H := H1
        clear H1
        replace H := Option.bind_eq_some_iff.mp H
        obtain ⟨t102, A130, H⟩ := H
        replace H : (some t102) = some r := H
        have A13 := Aside0.mk A130
        clear A130
        obtain rfl := Option.some.inj H
        go_wp2_with (first | ((with_reducible refine gate_callee (f := 21) rfl ?_); refine goesL_ (some 38) rfl rfl Try.func21 (by kernel_rfl) rfl #[] rfl (by (try simp only [List.map_toArray, List.map_cons, List.map_nil]); first | done | rfl | (simp only [List.length_drop, List.length_take]; rfl)) ?_; (with_reducible refine (Given.law10_awake.calls  t102 _ A13.out).mono ?_); rintro e w14 ⟨rfl, hb⟩; refine ⟨_, rfl, ?_⟩; have n0_ := Aside0.mk (below_step (by repeat (first | (with_reducible first | exact HB.out | apply below_alloc | apply pw_below_drewN | apply below_drew1) | exact HB.out)) hb); clear HB; have HB := n0_; clear n0_; (try clear hb); (try clear hb2); (try clear hk); (try clear hi)))
        go_ret
        exact ⟨by first | rfl | (simp [errW_none, errW_some] <;> rfl) | (simp [*, errW_none, errW_some] <;> rfl), by repeat (first | (with_reducible first | exact HB.out | apply below_alloc | apply pw_below_drewN | apply below_drew1) | exact HB.out)⟩
      · replace c12 := Bool.eq_false_iff.mpr c12
        subst c12
        have H1 : ((Given.cbc_Seal.f a0 a1 a2).bind fun bt103 => (if bt103.2 = 0 then ((Given.cbc_Open.f a0 a1 bt103.1).bind fun bt105 => (if bt105.2 = 0 then (if bt105.1.toList = a2.toList then ((Given.cbc_Frame.f a2).bind fun t107 => (hamperlaw10_CbcBack.j1 kj4 a0 a1 a3 bt103.1 ((bt103.1.size : Int) != (t107.size : Int)))) else (hamperlaw10_CbcBack.j1 kj4 a0 a1 a3 bt103.1 true)) else (hamperlaw10_CbcBack.j1 kj4 a0 a1 a3 bt103.1 true))) else (if (bt103.1.size : Int) = 0 then (if (a0.size : Int) = 32 then (some ((a1.size : Int) != 16)) else (some true)) else (some false)))) = some r := by rw [if_neg (show ¬ (false = true) by decide)] at H; exact H
        clear H
        have H := H1
        clear H1
        replace H := Option.bind_eq_some_iff.mp H
        obtain ⟨⟨t103, t104⟩, A150, H⟩ := H
        replace H : (if t104 = 0 then ((Given.cbc_Open.f a0 a1 t103).bind fun bt105 => (if bt105.2 = 0 then (if bt105.1.toList = a2.toList then ((Given.cbc_Frame.f a2).bind fun t107 => (hamperlaw10_CbcBack.j1 kj4 a0 a1 a3 t103 ((t103.size : Int) != (t107.size : Int)))) else (hamperlaw10_CbcBack.j1 kj4 a0 a1 a3 t103 true)) else (hamperlaw10_CbcBack.j1 kj4 a0 a1 a3 t103 true))) else (if (t103.size : Int) = 0 then (if (a0.size : Int) = 32 then (some ((a1.size : Int) != 16)) else (some true)) else (some false))) = some r := H
        have A15 := Aside0.mk A150
        clear A150
        by_cases c16 : t104 = 0
        · rw [if_pos c16] at H
          have c16b0 : (t104 == 0) = true := beq_iff_eq.mpr c16
          have c16b1 : (t104 != 0) = false := bne_eq_false_iff_eq.mpr c16
          clear c16
          replace H := Option.bind_eq_some_iff.mp H
          obtain ⟨⟨t105, t106⟩, A170, H⟩ := H
          replace H : (if t106 = 0 then (if t105.toList = a2.toList then ((Given.cbc_Frame.f a2).bind fun t107 => (hamperlaw10_CbcBack.j1 kj4 a0 a1 a3 t103 ((t103.size : Int) != (t107.size : Int)))) else (hamperlaw10_CbcBack.j1 kj4 a0 a1 a3 t103 true)) else (hamperlaw10_CbcBack.j1 kj4 a0 a1 a3 t103 true)) = some r := H
          have A17 := Aside0.mk A170
          clear A170
          have HC18 := Aside0.mk H
          clear H
          go_upto_region 7 with (first | ((with_reducible refine gate_callee (f := 22) rfl ?_); refine goesL_ (some 43) rfl rfl Try.func22 (by kernel_rfl) rfl #[.string a0, .string a1, .string a2] rfl (by (try simp only [List.map_toArray, List.map_cons, List.map_nil]); first | done | rfl | (simp only [List.length_drop, List.length_take]; rfl)) ?_; (with_reducible refine (Given.cbc_Seal.calls a0 a1 a2 t103 t104 _ A15.out).mono ?_); rintro e w19 ⟨rfl, hb⟩; refine ⟨_, rfl, ?_⟩; have n0_ := Aside0.mk (below_step (by repeat (first | (with_reducible first | exact HB.out | apply below_alloc | apply pw_below_drewN | apply below_drew1) | exact HB.out)) hb); clear HB; have HB := n0_; clear n0_; (try clear hb); (try clear hb2); (try clear hk); (try clear hi)) | ((with_reducible refine gate_callee (f := 24) rfl ?_); refine goesL_ (some 65) rfl rfl Try.func24 (by kernel_rfl) rfl #[.string a0, .string a1, .string t103] rfl (by (try simp only [List.map_toArray, List.map_cons, List.map_nil]); first | done | rfl | (simp only [List.length_drop, List.length_take]; rfl)) ?_; (with_reducible refine (Given.cbc_Open.calls a0 a1 t103 t105 t106 _ A17.out).mono ?_); rintro e w20 ⟨rfl, hb⟩; refine ⟨_, rfl, ?_⟩; have n0_ := Aside0.mk (below_step (by repeat (first | (with_reducible first | exact HB.out | apply below_alloc | apply pw_below_drewN | apply below_drew1) | exact HB.out)) hb); clear HB; have HB := n0_; clear n0_; (try clear hb); (try clear hb2); (try clear hk); (try clear hi)))
          (try simp only [Act.put, List.setIfInBounds_toArray, List.set_cons_zero, List.set_cons_succ])
          go_cut [82] (fun v82 wc => ∃ (kq : Nat) (x82_17 : Bool), v82 = .bool x82_17 ∧ Aside0 (hamperlaw10_CbcBack.j1 kq a0 a1 a3 t103 x82_17 = some r) ∧ Aside0 (kq ≤ kj4) ∧ Aside0 (Below w.heap.size w wc))
          case first =>
            have H := HC18.out
            clear HC18
            by_cases c21 : t106 = 0
            · rw [if_pos c21] at H
              have c21b0 : (t106 == 0) = true := beq_iff_eq.mpr c21
              have c21b1 : (t106 != 0) = false := bne_eq_false_iff_eq.mpr c21
              clear c21
              (first | rw [c21b0] | (simp only [i64_w, i32_w]; rw [c21b0]) | skip)
              by_cases c22 : t105.toList = a2.toList
              · rw [if_pos c22] at H
                have c22b0 : (t105.toList == a2.toList) = true := beq_iff_eq.mpr c22
                have c22b1 : (t105.toList != a2.toList) = false := bne_eq_false_iff_eq.mpr c22
                clear c22
                replace H := Option.bind_eq_some_iff.mp H
                obtain ⟨t107, A230, H⟩ := H
                replace H : (hamperlaw10_CbcBack.j1 kj4 a0 a1 a3 t103 ((t103.size : Int) != (t107.size : Int))) = some r := H
                have A23 := Aside0.mk A230
                clear A230
                have H' := Aside0.mk H
                clear H
                go_wp2_with (first | (go_at_call 26; (with_reducible refine (Given.cbc_Frame.calls a2 t107 _ A23.out).mono ?_); rintro e w24 ⟨rfl, hb⟩; have n0_ := Aside0.mk (below_step (by repeat (first | (with_reducible first | exact HB.out | apply below_alloc | apply pw_below_drewN | apply below_drew1) | exact HB.out)) hb); clear HB; have HB := n0_; clear n0_; (try clear hb); (try clear hb2); (try clear hk); (try clear hi)))
                go_meet
                case rel => exact ⟨_, (((t103.size : Int) != (t107.size : Int))), (by first | rfl | (simp; done) | (simp [*]; done)), H', ⟨by have := HJ4.out; first | omega | exact Nat.le_refl _⟩, ⟨by repeat (first | (with_reducible first | exact HB.out | apply below_alloc | apply pw_below_drewN | apply below_drew1) | exact HB.out)⟩⟩
              · rw [if_neg c22] at H
                have c22b0 : (t105.toList == a2.toList) = false := beq_eq_false_iff_ne.mpr c22
                have c22b1 : (t105.toList != a2.toList) = true := bne_iff_ne.mpr c22
                have H' := Aside0.mk H
                clear H
                go_wp2
                go_meet
                case rel => exact ⟨_, (true), (by first | rfl | (simp; done) | (simp [*]; done)), H', ⟨by have := HJ4.out; first | omega | exact Nat.le_refl _⟩, ⟨by repeat (first | (with_reducible first | exact HB.out | apply below_alloc | apply pw_below_drewN | apply below_drew1) | exact HB.out)⟩⟩
            · rw [if_neg c21] at H
              have c21b0 : (t106 == 0) = false := beq_eq_false_iff_ne.mpr c21
              have c21b1 : (t106 != 0) = true := bne_iff_ne.mpr c21
              (first | rw [c21b0] | (simp only [i64_w, i32_w]; rw [c21b0]) | skip)
              have H' := Aside0.mk H
              clear H
              go_wp2
              go_meet
              case rel => exact ⟨_, (true), (by first | rfl | (simp; done) | (simp [*]; done)), H', ⟨by have := HJ4.out; first | omega | exact Nat.le_refl _⟩, ⟨by repeat (first | (with_reducible first | exact HB.out | apply below_alloc | apply pw_below_drewN | apply below_drew1) | exact HB.out)⟩⟩
          case rest =>
            clear HC18
            try clear c1
            try clear c2
            try clear p2
            try clear c6
            try clear c6b0
            try clear c6b1
            try clear c7
            try clear c7b0
            try clear c7b1
            try clear c8
            try clear c8b0
            try clear c8b1
            try clear c9
            try clear c9b0
            try clear c9b1
            try clear c10
            try clear c12
            try clear c16
            try clear c16b0
            try clear c16b1
            try clear c21
            try clear c21b0
            try clear c21b1
            try clear c22
            try clear c22b0
            try clear c22b1
            try clear c24
            try clear p2
            obtain ⟨kq, x82_17, rfl, HA, HJ17, HB⟩ := hcut
            cases kq with
            | zero => exact absurd HA.out (by simp [hamperlaw10_CbcBack.j1])
            | succ kj17 =>
              have H := HA.out
              clear HA
              simp only [hamperlaw10_CbcBack.j1] at H
              by_cases c25 : x82_17 = true
              · subst c25
                have H1 : (some false) = some r := by rw [if_pos rfl] at H; exact H
                clear H
                have H := H1
                clear H1
                exact absurd ((Option.some.inj H).trans hr_.out) Bool.false_ne_true
              · replace c25 := Bool.eq_false_iff.mpr c25
                subst c25
                have H1 : (if 0 ≤ (wrap64 ((t103.size : Int) - 16)) then (if (wrap64 ((t103.size : Int) - 16)) ≤ (t103.size : Int) then ((Given.cbc_Open.f a0 a1 (t103.extract 0 ((wrap64 ((t103.size : Int) - 16)) : Int).toNat)).bind fun bt108 => (if bt108.2 = 4 then ((Given.cbc_Open.f a0 a1 a3).bind fun bt110 => (if bt110.2 = 0 then ((Given.cbc_Seal.f a0 a1 bt110.1).bind fun bt112 => (if bt112.2 = 0 then (some (bt112.1.toList == a3.toList)) else (some false))) else (some ((bt110.1.size : Int) == 0)))) else (some false))) else (none)) else (none)) = some r := by rw [if_neg (show ¬ (false = true) by decide)] at H; exact H
                clear H
                have H := H1
                clear H1
                obtain ⟨ji26, hji26⟩ : ∃ j_ : Int, (wrap64 ((t103.size : Int) - 16)) = j_ := ⟨_, rfl⟩
                replace H : (if 0 ≤ (ji26) then (if (ji26) ≤ (t103.size : Int) then ((Given.cbc_Open.f a0 a1 (t103.extract 0 ((ji26) : Int).toNat)).bind fun bt108 => (if bt108.2 = 4 then ((Given.cbc_Open.f a0 a1 a3).bind fun bt110 => (if bt110.2 = 0 then ((Given.cbc_Seal.f a0 a1 bt110.1).bind fun bt112 => (if bt112.2 = 0 then (some (bt112.1.toList == a3.toList)) else (some false))) else (some ((bt110.1.size : Int) == 0)))) else (some false))) else (none)) else (none)) = some r := by first | (rw [hji26] at H; exact H) | (simp only [hji26] at H ⊢; exact H)
                have hji26w : (IntKind.i64.wrap ((t103.size : Int) - 16)) = ji26 := (i64_w _).trans hji26
                by_cases c27 : 0 ≤ (ji26)
                · rw [if_pos c27] at H
                  have c27b0 := eq_true c27
                  have c27b1 : decide (0 ≤ (ji26)) = true := decide_eq_true c27
                  clear c27
                  by_cases c28 : (ji26) ≤ (t103.size : Int)
                  · rw [if_pos c28] at H
                    have c28b0 := eq_true c28
                    have c28b1 : decide ((ji26) ≤ (t103.size : Int)) = true := decide_eq_true c28
                    clear c28
                    replace H := Option.bind_eq_some_iff.mp H
                    obtain ⟨⟨t108, t109⟩, A290, H⟩ := H
                    replace H : (if t109 = 4 then ((Given.cbc_Open.f a0 a1 a3).bind fun bt110 => (if bt110.2 = 0 then ((Given.cbc_Seal.f a0 a1 bt110.1).bind fun bt112 => (if bt112.2 = 0 then (some (bt112.1.toList == a3.toList)) else (some false))) else (some ((bt110.1.size : Int) == 0)))) else (some false)) = some r := H
                    have A29 := Aside0.mk A290
                    clear A290
                    by_cases c30 : t109 = 4
                    · rw [if_pos c30] at H
                      have c30b0 : (t109 == 4) = true := beq_iff_eq.mpr c30
                      have c30b1 : (t109 != 4) = false := bne_eq_false_iff_eq.mpr c30
                      clear c30
                      replace H := Option.bind_eq_some_iff.mp H
                      obtain ⟨⟨t110, t111⟩, A310, H⟩ := H
                      replace H : (if t111 = 0 then ((Given.cbc_Seal.f a0 a1 t110).bind fun bt112 => (if bt112.2 = 0 then (some (bt112.1.toList == a3.toList)) else (some false))) else (some ((t110.size : Int) == 0))) = some r := H
                      have A31 := Aside0.mk A310
                      clear A310
                      by_cases c32 : t111 = 0
                      · rw [if_pos c32] at H
                        have c32b0 : (t111 == 0) = true := beq_iff_eq.mpr c32
                        have c32b1 : (t111 != 0) = false := bne_eq_false_iff_eq.mpr c32
                        clear c32
                        replace H := Option.bind_eq_some_iff.mp H
                        obtain ⟨⟨t112, t113⟩, A330, H⟩ := H
                        replace H : (if t113 = 0 then (some (t112.toList == a3.toList)) else (some false)) = some r := H
                        have A33 := Aside0.mk A330
                        clear A330
                        by_cases c34 : t113 = 0
                        · rw [if_pos c34] at H
                          have c34b0 : (t113 == 0) = true := beq_iff_eq.mpr c34
                          have c34b1 : (t113 != 0) = false := bne_eq_false_iff_eq.mpr c34
                          clear c34
                          obtain rfl := Option.some.inj H
                          go_wp2_with (first | ((with_reducible refine gate_callee (f := 24) rfl ?_); refine goesL_ (some 91) rfl rfl Try.func24 (by kernel_rfl) rfl #[.string a0, .string a1, .string (t103.extract 0 ((ji26) : Int).toNat)] rfl (by (try simp only [List.map_toArray, List.map_cons, List.map_nil]); first | done | (simp only [hji26]; rfl) | rfl | (simp only [List.length_drop, List.length_take]; rfl)) ?_; (with_reducible refine (Given.cbc_Open.calls a0 a1 (t103.extract 0 ((ji26) : Int).toNat) t108 t109 _ A29.out).mono ?_); rintro e w35 ⟨rfl, hb⟩; refine ⟨_, rfl, ?_⟩; have n0_ := Aside0.mk (below_step (by repeat (first | (with_reducible first | exact HB.out | apply below_alloc | apply pw_below_drewN | apply below_drew1) | exact HB.out)) hb); clear HB; have HB := n0_; clear n0_; (try clear hb); (try clear hb2); (try clear hk); (try clear hi)) | ((with_reducible refine gate_callee (f := 24) rfl ?_); refine goesL_ (some 100) rfl rfl Try.func24 (by kernel_rfl) rfl #[.string a0, .string a1, .string a3] rfl (by (try simp only [List.map_toArray, List.map_cons, List.map_nil]); first | done | rfl | (simp only [List.length_drop, List.length_take]; rfl)) ?_; (with_reducible refine (Given.cbc_Open.calls a0 a1 a3 t110 t111 _ A31.out).mono ?_); rintro e w36 ⟨rfl, hb⟩; refine ⟨_, rfl, ?_⟩; have n0_ := Aside0.mk (below_step (by repeat (first | (with_reducible first | exact HB.out | apply below_alloc | apply pw_below_drewN | apply below_drew1) | exact HB.out)) hb); clear HB; have HB := n0_; clear n0_; (try clear hb); (try clear hb2); (try clear hk); (try clear hi)) | ((with_reducible refine gate_callee (f := 22) rfl ?_); refine goesL_ (some 112) rfl rfl Try.func22 (by kernel_rfl) rfl #[.string a0, .string a1, .string t110] rfl (by (try simp only [List.map_toArray, List.map_cons, List.map_nil]); first | done | rfl | (simp only [List.length_drop, List.length_take]; rfl)) ?_; (with_reducible refine (Given.cbc_Seal.calls a0 a1 t110 t112 t113 _ A33.out).mono ?_); rintro e w37 ⟨rfl, hb⟩; refine ⟨_, rfl, ?_⟩; have n0_ := Aside0.mk (below_step (by repeat (first | (with_reducible first | exact HB.out | apply below_alloc | apply pw_below_drewN | apply below_drew1) | exact HB.out)) hb); clear HB; have HB := n0_; clear n0_; (try clear hb); (try clear hb2); (try clear hk); (try clear hi)))
                          go_ret
                          exact ⟨by first | rfl | (simp [errW_none, errW_some] <;> rfl) | (simp only [← hji26]; first | rfl | (simp [errW_none, errW_some] <;> rfl)) | (simp [*, errW_none, errW_some] <;> rfl), by repeat (first | (with_reducible first | exact HB.out | apply below_alloc | apply pw_below_drewN | apply below_drew1) | exact HB.out)⟩
                        · rw [if_neg c34] at H
                          have c34b0 : (t113 == 0) = false := beq_eq_false_iff_ne.mpr c34
                          have c34b1 : (t113 != 0) = true := bne_iff_ne.mpr c34
                          exact absurd ((Option.some.inj H).trans hr_.out) Bool.false_ne_true
                      · rw [if_neg c32] at H
                        have c32b0 : (t111 == 0) = false := beq_eq_false_iff_ne.mpr c32
                        have c32b1 : (t111 != 0) = true := bne_iff_ne.mpr c32
                        obtain rfl := Option.some.inj H
                        go_wp2_with (first | ((with_reducible refine gate_callee (f := 24) rfl ?_); refine goesL_ (some 91) rfl rfl Try.func24 (by kernel_rfl) rfl #[.string a0, .string a1, .string (t103.extract 0 ((ji26) : Int).toNat)] rfl (by (try simp only [List.map_toArray, List.map_cons, List.map_nil]); first | done | (simp only [hji26]; rfl) | rfl | (simp only [List.length_drop, List.length_take]; rfl)) ?_; (with_reducible refine (Given.cbc_Open.calls a0 a1 (t103.extract 0 ((ji26) : Int).toNat) t108 t109 _ A29.out).mono ?_); rintro e w38 ⟨rfl, hb⟩; refine ⟨_, rfl, ?_⟩; have n0_ := Aside0.mk (below_step (by repeat (first | (with_reducible first | exact HB.out | apply below_alloc | apply pw_below_drewN | apply below_drew1) | exact HB.out)) hb); clear HB; have HB := n0_; clear n0_; (try clear hb); (try clear hb2); (try clear hk); (try clear hi)) | ((with_reducible refine gate_callee (f := 24) rfl ?_); refine goesL_ (some 100) rfl rfl Try.func24 (by kernel_rfl) rfl #[.string a0, .string a1, .string a3] rfl (by (try simp only [List.map_toArray, List.map_cons, List.map_nil]); first | done | rfl | (simp only [List.length_drop, List.length_take]; rfl)) ?_; (with_reducible refine (Given.cbc_Open.calls a0 a1 a3 t110 t111 _ A31.out).mono ?_); rintro e w39 ⟨rfl, hb⟩; refine ⟨_, rfl, ?_⟩; have n0_ := Aside0.mk (below_step (by repeat (first | (with_reducible first | exact HB.out | apply below_alloc | apply pw_below_drewN | apply below_drew1) | exact HB.out)) hb); clear HB; have HB := n0_; clear n0_; (try clear hb); (try clear hb2); (try clear hk); (try clear hi)))
                        go_ret
                        exact ⟨by first | rfl | (simp [errW_none, errW_some] <;> rfl) | (simp only [← hji26]; first | rfl | (simp [errW_none, errW_some] <;> rfl)) | (simp [*, errW_none, errW_some] <;> rfl), by repeat (first | (with_reducible first | exact HB.out | apply below_alloc | apply pw_below_drewN | apply below_drew1) | exact HB.out)⟩
                    · rw [if_neg c30] at H
                      have c30b0 : (t109 == 4) = false := beq_eq_false_iff_ne.mpr c30
                      have c30b1 : (t109 != 4) = true := bne_iff_ne.mpr c30
                      exact absurd ((Option.some.inj H).trans hr_.out) Bool.false_ne_true
                  · rw [if_neg c28] at H
                    exact absurd H (by simp)
                · rw [if_neg c27] at H
                  exact absurd H (by simp)
        · rw [if_neg c16] at H
          have c16b0 : (t104 == 0) = false := beq_eq_false_iff_ne.mpr c16
          have c16b1 : (t104 != 0) = true := bne_iff_ne.mpr c16
          by_cases c40 : (t103.size : Int) = 0
          · rw [if_pos c40] at H
            have c40b0 : ((t103.size : Int) == 0) = true := beq_iff_eq.mpr c40
            have c40b1 : ((t103.size : Int) != 0) = false := bne_eq_false_iff_eq.mpr c40
            clear c40
            by_cases c41 : (a0.size : Int) = 32
            · rw [if_pos c41] at H
              have c41b0 : ((a0.size : Int) == 32) = true := beq_iff_eq.mpr c41
              have c41b1 : ((a0.size : Int) != 32) = false := bne_eq_false_iff_eq.mpr c41
              clear c41
              obtain rfl := Option.some.inj H
              go_wp2_with (first | ((with_reducible refine gate_callee (f := 22) rfl ?_); refine goesL_ (some 43) rfl rfl Try.func22 (by kernel_rfl) rfl #[.string a0, .string a1, .string a2] rfl (by (try simp only [List.map_toArray, List.map_cons, List.map_nil]); first | done | rfl | (simp only [List.length_drop, List.length_take]; rfl)) ?_; (with_reducible refine (Given.cbc_Seal.calls a0 a1 a2 t103 t104 _ A15.out).mono ?_); rintro e w42 ⟨rfl, hb⟩; refine ⟨_, rfl, ?_⟩; have n0_ := Aside0.mk (below_step (by repeat (first | (with_reducible first | exact HB.out | apply below_alloc | apply pw_below_drewN | apply below_drew1) | exact HB.out)) hb); clear HB; have HB := n0_; clear n0_; (try clear hb); (try clear hb2); (try clear hk); (try clear hi)))
              go_ret
              exact ⟨by first | rfl | (simp [errW_none, errW_some] <;> rfl) | (simp [*, errW_none, errW_some] <;> rfl), by repeat (first | (with_reducible first | exact HB.out | apply below_alloc | apply pw_below_drewN | apply below_drew1) | exact HB.out)⟩
            · rw [if_neg c41] at H
              have c41b0 : ((a0.size : Int) == 32) = false := beq_eq_false_iff_ne.mpr c41
              have c41b1 : ((a0.size : Int) != 32) = true := bne_iff_ne.mpr c41
              obtain rfl := Option.some.inj H
              go_wp2_with (first | ((with_reducible refine gate_callee (f := 22) rfl ?_); refine goesL_ (some 43) rfl rfl Try.func22 (by kernel_rfl) rfl #[.string a0, .string a1, .string a2] rfl (by (try simp only [List.map_toArray, List.map_cons, List.map_nil]); first | done | rfl | (simp only [List.length_drop, List.length_take]; rfl)) ?_; (with_reducible refine (Given.cbc_Seal.calls a0 a1 a2 t103 t104 _ A15.out).mono ?_); rintro e w43 ⟨rfl, hb⟩; refine ⟨_, rfl, ?_⟩; have n0_ := Aside0.mk (below_step (by repeat (first | (with_reducible first | exact HB.out | apply below_alloc | apply pw_below_drewN | apply below_drew1) | exact HB.out)) hb); clear HB; have HB := n0_; clear n0_; (try clear hb); (try clear hb2); (try clear hk); (try clear hi)))
              go_ret
              exact ⟨by first | rfl | (simp [errW_none, errW_some] <;> rfl) | (simp [*, errW_none, errW_some] <;> rfl), by repeat (first | (with_reducible first | exact HB.out | apply below_alloc | apply pw_below_drewN | apply below_drew1) | exact HB.out)⟩
          · rw [if_neg c40] at H
            have c40b0 : ((t103.size : Int) == 0) = false := beq_eq_false_iff_ne.mpr c40
            have c40b1 : ((t103.size : Int) != 0) = true := bne_iff_ne.mpr c40
            exact absurd ((Option.some.inj H).trans hr_.out) Bool.false_ne_true

/-- THE ONE PURE STATEMENT of hamperlaw10_CbcBack: yours. -/
def hamperlaw10_CbcBack.Pure : Prop := ∀ (a0 : ByteArray) (a1 : ByteArray) (a2 : ByteArray) (a3 : ByteArray), a0.size ≤ 140737488351232 → a1.size ≤ 140737488351232 → a2.size ≤ 140737488351232 → a3.size ≤ 140737488351232 → ∃ k, hamperlaw10_CbcBack.f k a0 a1 a2 a3 = some true
theorem hamperlaw10_CbcBack.walk (P : hamperlaw10_CbcBack.Pure) (a0 : ByteArray) (a1 : ByteArray) (a2 : ByteArray) (a3 : ByteArray) (w : World) (w0 : a0.size ≤ 140737488351232) (w1 : a1.size ≤ 140737488351232) (w2 : a2.size ≤ 140737488351232) (w3 : a3.size ≤ 140737488351232) :
    Calls Try.prog 10 #[.string a0, .string a1, .string a2, .string a3] w fun e w' => e = .returned (.bool true) ∧ Below w.heap.size w w' := by
  obtain ⟨k, h⟩ := P a0 a1 a2 a3 w0 w1 w2 w3
  refine (hamperlaw10_CbcBack.calls k a0 a1 a2 a3 true w h ⟨rfl⟩).mono ?_
  rintro e w' ⟨rfl, hd⟩
  exact ⟨rfl, hd⟩

end Go.Proofs.Ytfbcgpgpfpnpnaa.PCbcBack
