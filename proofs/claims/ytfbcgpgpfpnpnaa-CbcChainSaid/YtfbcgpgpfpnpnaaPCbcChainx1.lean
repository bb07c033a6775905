/- The machine side of a law: printed by a program (wip/gprint.py over the kit's print), with the contracts of some functions proved by hand. Conditions: as each theorem names them. -/
import Derived.Test.YtfbcgpgpfpnpnaaPCbcChainx0
namespace Go.Proofs.Ytfbcgpgpfpnpnaa.PCbcChain
open Go.RowKit Go.Proofs.YtfbcgpgpfpnpnaaW.PrintWords Go.Proofs.YtfbcgpgpfpnpnaaW.PrintLast Go.Proofs.YtfbcgpgpfpnpnaaW.PrintMore
attribute [local go_sem] max2_int min2_int max_two min_two max_three min_three max_four min_four   -- for this text's walks alone
set_option linter.unusedVariables false
set_option linter.unusedSimpArgs false

-- by hand: function 21 (hamperlaw10_awake)

-- by hand: function 22 (cbc_Seal)

-- by hand: function 26 (cbc_Frame)

/-! ### hamperlaw10_CbcChain: function 11 -/
mutual
def hamperlaw10_CbcChain.j0 : Nat → ByteArray → ByteArray → ByteArray → ByteArray → Bool → Option (Bool)
  | 0, _, _, _, _, _ => none
  | k + 1, x0, x1, x2, x3, x37 => if x37 = true then ((Given.law10_awake.f).bind fun t102 => (some t102)) else ((Given.cbc_Seal.f x0 x1 x2).bind fun bt103 => ((Given.cbc_Seal.f x0 x1 x3).bind fun bt105 => (if bt103.2 = 0 then (hamperlaw10_CbcChain.j1 k x2 x3 bt103.1 bt105.1 (bt105.2 != 0)) else (hamperlaw10_CbcChain.j1 k x2 x3 bt103.1 bt105.1 true))))
def hamperlaw10_CbcChain.j1 : Nat → ByteArray → ByteArray → ByteArray → ByteArray → Bool → Option (Bool)
  | 0, _, _, _, _, _ => none
  | k + 1, x2, x3, x9, x11, x58 => if x58 = true then (some false) else ((Given.cbc_Frame.f x2).bind fun t107 => ((Given.cbc_Frame.f x3).bind fun t108 => (hamperlaw10_CbcChain.l0 k x9 x11 t107 t108 0)))
def hamperlaw10_CbcChain.l0 : Nat → ByteArray → ByteArray → ByteArray → ByteArray → Int → Option (Bool)
  | 0, _, _, _, _, _ => none
  | k + 1, x9, x11, x13, x14, x15 => if (wrap64 (x15 + 16)) ≤ (x13.size : Int) then (hamperlaw10_CbcChain.j3 k x9 x11 x13 x14 x15 (decide ((wrap64 (x15 + 16)) ≤ (x14.size : Int)))) else (hamperlaw10_CbcChain.j3 k x9 x11 x13 x14 x15 false)
def hamperlaw10_CbcChain.j3 : Nat → ByteArray → ByteArray → ByteArray → ByteArray → Int → Bool → Option (Bool)
  | 0, _, _, _, _, _, _ => none
  | k + 1, x9, x11, x13, x14, x15, x74 => if x74 = true then (if 0 ≤ x15 then (if x15 ≤ (wrap64 (x15 + 16)) then (if (wrap64 (x15 + 16)) ≤ (x9.size : Int) then (if (wrap64 (x15 + 16)) ≤ (x11.size : Int) then (if (x9.extract (x15 : Int).toNat ((wrap64 (x15 + 16)) : Int).toNat).toList = (x11.extract (x15 : Int).toNat ((wrap64 (x15 + 16)) : Int).toNat).toList then (if (wrap64 (x15 + 16)) ≤ (x13.size : Int) then (if (wrap64 (x15 + 16)) ≤ (x14.size : Int) then (if (x13.extract (x15 : Int).toNat ((wrap64 (x15 + 16)) : Int).toNat).toList = (x14.extract (x15 : Int).toNat ((wrap64 (x15 + 16)) : Int).toNat).toList then (hamperlaw10_CbcChain.l0 k x9 x11 x13 x14 (wrap64 (x15 + 16))) else (some (((x9.extract (x15 : Int).toNat ((wrap64 (x15 + 16)) : Int).toNat).toList == (x11.extract (x15 : Int).toNat ((wrap64 (x15 + 16)) : Int).toNat).toList) == ((x13.extract (x15 : Int).toNat ((wrap64 (x15 + 16)) : Int).toNat).toList == (x14.extract (x15 : Int).toNat ((wrap64 (x15 + 16)) : Int).toNat).toList)))) else (none)) else (none)) else (if (wrap64 (x15 + 16)) ≤ (x13.size : Int) then (if (wrap64 (x15 + 16)) ≤ (x14.size : Int) then (some (((x9.extract (x15 : Int).toNat ((wrap64 (x15 + 16)) : Int).toNat).toList == (x11.extract (x15 : Int).toNat ((wrap64 (x15 + 16)) : Int).toNat).toList) == ((x13.extract (x15 : Int).toNat ((wrap64 (x15 + 16)) : Int).toNat).toList == (x14.extract (x15 : Int).toNat ((wrap64 (x15 + 16)) : Int).toNat).toList))) else (none)) else (none))) else (none)) else (none)) else (none)) else (none)) else (some true)
end
def hamperlaw10_CbcChain.f (k : Nat) (a0 : ByteArray) (a1 : ByteArray) (a2 : ByteArray) (a3 : ByteArray) : Option (Bool) := if (a0.size : Int) = 32 then (if (a1.size : Int) = 16 then (if (a2.size : Int) > 600 then (hamperlaw10_CbcChain.j0 k a0 a1 a2 a3 true) else (if (a3.size : Int) > 600 then (hamperlaw10_CbcChain.j0 k a0 a1 a2 a3 true) else ((Given.law10_awake.f).bind fun t101 => (hamperlaw10_CbcChain.j0 k a0 a1 a2 a3 (!t101))))) else (hamperlaw10_CbcChain.j0 k a0 a1 a2 a3 true)) else (hamperlaw10_CbcChain.j0 k a0 a1 a2 a3 true)
theorem hamperlaw10_CbcChain.mono_l : ∀ k, (∀ y0 y1 y2 y3 y4, LeO (hamperlaw10_CbcChain.j0 k y0 y1 y2 y3 y4) (hamperlaw10_CbcChain.j0 (k + 1) y0 y1 y2 y3 y4)) ∧ (∀ y0 y1 y2 y3 y4, LeO (hamperlaw10_CbcChain.j1 k y0 y1 y2 y3 y4) (hamperlaw10_CbcChain.j1 (k + 1) y0 y1 y2 y3 y4)) ∧ (∀ y0 y1 y2 y3 y4, LeO (hamperlaw10_CbcChain.l0 k y0 y1 y2 y3 y4) (hamperlaw10_CbcChain.l0 (k + 1) y0 y1 y2 y3 y4)) ∧ (∀ y0 y1 y2 y3 y4 y5, LeO (hamperlaw10_CbcChain.j3 k y0 y1 y2 y3 y4 y5) (hamperlaw10_CbcChain.j3 (k + 1) y0 y1 y2 y3 y4 y5))
  | 0 => ⟨fun _ _ _ _ _ r h => by simp [hamperlaw10_CbcChain.j0] at h, fun _ _ _ _ _ r h => by simp [hamperlaw10_CbcChain.j1] at h, fun _ _ _ _ _ r h => by simp [hamperlaw10_CbcChain.l0] at h, fun _ _ _ _ _ _ r h => by simp [hamperlaw10_CbcChain.j3] at h⟩
  | k + 1 => by
    obtain ⟨ih0, ih1, ih2, ih3⟩ := hamperlaw10_CbcChain.mono_l k
    refine ⟨?_, ?_, ?_, ?_⟩
    · intro y0 y1 y2 y3 y4
      unfold hamperlaw10_CbcChain.j0
      repeat' first
      | (with_reducible exact ih0 _ _ _ _ _)
      | (with_reducible exact ih1 _ _ _ _ _)
      | (with_reducible exact ih2 _ _ _ _ _)
      | (with_reducible exact ih3 _ _ _ _ _ _)
      | (with_reducible exact LeO.refl _)
      | (with_reducible exact LeO.none _)
      | (with_reducible refine LeO.ite ?_ ?_)
      | (with_reducible refine LeO.bind ?_ (fun _ => ?_))
      | exact ih0 _ _ _ _ _
      | exact ih1 _ _ _ _ _
      | exact ih2 _ _ _ _ _
      | exact ih3 _ _ _ _ _ _
      | exact LeO.none _
      | refine LeO.ite ?_ ?_
      | refine LeO.bind ?_ (fun _ => ?_)
    · intro y0 y1 y2 y3 y4
      unfold hamperlaw10_CbcChain.j1
      repeat' first
      | (with_reducible exact ih0 _ _ _ _ _)
      | (with_reducible exact ih1 _ _ _ _ _)
      | (with_reducible exact ih2 _ _ _ _ _)
      | (with_reducible exact ih3 _ _ _ _ _ _)
      | (with_reducible exact LeO.refl _)
      | (with_reducible exact LeO.none _)
      | (with_reducible refine LeO.ite ?_ ?_)
      | (with_reducible refine LeO.bind ?_ (fun _ => ?_))
      | exact ih0 _ _ _ _ _
      | exact ih1 _ _ _ _ _
      | exact ih2 _ _ _ _ _
      | exact ih3 _ _ _ _ _ _
      | exact LeO.none _
      | refine LeO.ite ?_ ?_
      | refine LeO.bind ?_ (fun _ => ?_)
    · intro y0 y1 y2 y3 y4
      unfold hamperlaw10_CbcChain.l0
      repeat' first
      | (with_reducible exact ih0 _ _ _ _ _)
      | (with_reducible exact ih1 _ _ _ _ _)
      | (with_reducible exact ih2 _ _ _ _ _)
      | (with_reducible exact ih3 _ _ _ _ _ _)
      | (with_reducible exact LeO.refl _)
      | (with_reducible exact LeO.none _)
      | (with_reducible refine LeO.ite ?_ ?_)
      | (with_reducible refine LeO.bind ?_ (fun _ => ?_))
      | exact ih0 _ _ _ _ _
      | exact ih1 _ _ _ _ _
      | exact ih2 _ _ _ _ _
      | exact ih3 _ _ _ _ _ _
      | exact LeO.none _
      | refine LeO.ite ?_ ?_
      | refine LeO.bind ?_ (fun _ => ?_)
    · intro y0 y1 y2 y3 y4 y5
      unfold hamperlaw10_CbcChain.j3
      repeat' first
      | (with_reducible exact ih0 _ _ _ _ _)
      | (with_reducible exact ih1 _ _ _ _ _)
      | (with_reducible exact ih2 _ _ _ _ _)
      | (with_reducible exact ih3 _ _ _ _ _ _)
      | (with_reducible exact LeO.refl _)
      | (with_reducible exact LeO.none _)
      | (with_reducible refine LeO.ite ?_ ?_)
      | (with_reducible refine LeO.bind ?_ (fun _ => ?_))
      | exact ih0 _ _ _ _ _
      | exact ih1 _ _ _ _ _
      | exact ih2 _ _ _ _ _
      | exact ih3 _ _ _ _ _ _
      | exact LeO.none _
      | refine LeO.ite ?_ ?_
      | refine LeO.bind ?_ (fun _ => ?_)
theorem hamperlaw10_CbcChain.mono : ∀ a0 a1 a2 a3 k, LeO (hamperlaw10_CbcChain.f k a0 a1 a2 a3) (hamperlaw10_CbcChain.f (k + 1) a0 a1 a2 a3) := by
  intro a0 a1 a2 a3 k
  obtain ⟨ih0, ih1, ih2, ih3⟩ := hamperlaw10_CbcChain.mono_l k
  unfold hamperlaw10_CbcChain.f
  repeat' first
      | (with_reducible exact ih0 _ _ _ _ _)
      | (with_reducible exact ih1 _ _ _ _ _)
      | (with_reducible exact ih2 _ _ _ _ _)
      | (with_reducible exact ih3 _ _ _ _ _ _)
      | (with_reducible exact LeO.refl _)
      | (with_reducible exact LeO.none _)
      | (with_reducible refine LeO.ite ?_ ?_)
      | (with_reducible refine LeO.bind ?_ (fun _ => ?_))
      | exact ih0 _ _ _ _ _
      | exact ih1 _ _ _ _ _
      | exact ih2 _ _ _ _ _
      | exact ih3 _ _ _ _ _ _
      | exact LeO.none _
      | refine LeO.ite ?_ ?_
      | refine LeO.bind ?_ (fun _ => ?_)
set_option maxHeartbeats 8000000 in
set_option maxRecDepth 100000 in
theorem hamperlaw10_CbcChain.calls (k : Nat) (a0 : ByteArray) (a1 : ByteArray) (a2 : ByteArray) (a3 : ByteArray) (r : Bool) (w : World) (h : hamperlaw10_CbcChain.f k a0 a1 a2 a3 = some r) (hr_ : Aside0 (r = true)) :
    Calls Try.prog 11 #[.string a0, .string a1, .string a2, .string a3] w fun e w' => e = .returned (.bool r) ∧ Below w.heap.size w w' := by
  have HB := Aside0.mk (Below.refl w.heap.size w)
  have H : (if (a0.size : Int) = 32 then (if (a1.size : Int) = 16 then (if (a2.size : Int) > 600 then (hamperlaw10_CbcChain.j0 k a0 a1 a2 a3 true) else (if (a3.size : Int) > 600 then (hamperlaw10_CbcChain.j0 k a0 a1 a2 a3 true) else ((Given.law10_awake.f).bind fun t101 => (hamperlaw10_CbcChain.j0 k a0 a1 a2 a3 (!t101))))) else (hamperlaw10_CbcChain.j0 k a0 a1 a2 a3 true)) else (hamperlaw10_CbcChain.j0 k a0 a1 a2 a3 true)) = some r := h
  clear h
  have HC5 := Aside0.mk H
  clear H
  go_enter Try.func11, Try.ntmps11
  go_upto_region 1 with (fail)
  repeat (go_quiet (fail); go_upto_region 1 with (fail))
  go_cut [37] (fun v37 wc => ∃ (kq : Nat) (x37_4 : Bool), v37 = .bool x37_4 ∧ Aside0 (hamperlaw10_CbcChain.j0 kq a0 a1 a2 a3 x37_4 = some r) ∧ Aside0 (kq ≤ k) ∧ Aside0 (Below w.heap.size w wc))
  case first =>
    have H := HC5.out
    clear HC5
    by_cases c6 : (a0.size : Int) = 32
    · rw [if_pos c6] at H
      have c6b0 : ((a0.size : Int) == 32) = true := beq_iff_eq.mpr c6
      have c6b1 : ((a0.size : Int) != 32) = false := bne_eq_false_iff_eq.mpr c6
      clear c6
      (first | rw [c6b0] | (simp only [i64_w, i32_w]; rw [c6b0]) | skip)
      by_cases c7 : (a1.size : Int) = 16
      · rw [if_pos c7] at H
        have c7b0 : ((a1.size : Int) == 16) = true := beq_iff_eq.mpr c7
        have c7b1 : ((a1.size : Int) != 16) = false := bne_eq_false_iff_eq.mpr c7
        clear c7
        by_cases c8 : (a2.size : Int) > 600
        · rw [if_pos c8] at H
          have c8b0 : decide (600 < (a2.size : Int)) = true := decide_eq_true c8
          have c8b1 : decide (600 < a2.size) = true := decide_eq_true (by omega)
          clear c8
          have H' := Aside0.mk H
          clear H
          go_wp2
          repeat (go_quiet (fail); try go_wp2)
          go_meet
          case rel => exact ⟨_, (true), (by first | rfl | (simp; done) | (simp [*]; done)), H', ⟨by first | omega | exact Nat.le_refl _⟩, ⟨by repeat (first | (with_reducible first | exact HB.out | apply below_alloc | apply pw_below_drewN | apply below_drew1) | exact HB.out)⟩⟩
        · rw [if_neg c8] at H
          have c8b0 : decide (600 < (a2.size : Int)) = false := decide_eq_false c8
          have c8b1 : decide (600 < a2.size) = false := decide_eq_false (by omega)
          clear c8
          by_cases c9 : (a3.size : Int) > 600
          · rw [if_pos c9] at H
            have c9b0 : decide (600 < (a3.size : Int)) = true := decide_eq_true c9
            have c9b1 : decide (600 < a3.size) = true := decide_eq_true (by omega)
            clear c9
            have H' := Aside0.mk H
            clear H
            go_wp2
            repeat (go_quiet (fail); try go_wp2)
            go_meet
            case rel => exact ⟨_, (true), (by first | rfl | (simp; done) | (simp [*]; done)), H', ⟨by first | omega | exact Nat.le_refl _⟩, ⟨by repeat (first | (with_reducible first | exact HB.out | apply below_alloc | apply pw_below_drewN | apply below_drew1) | exact HB.out)⟩⟩
          · rw [if_neg c9] at H
            have c9b0 : decide (600 < (a3.size : Int)) = false := decide_eq_false c9
            have c9b1 : decide (600 < a3.size) = false := decide_eq_false (by omega)
            clear c9
            replace H := Option.bind_eq_some_iff.mp H
            obtain ⟨t101, A100, H⟩ := H
            replace H : (hamperlaw10_CbcChain.j0 k a0 a1 a2 a3 (!t101)) = some r := H
            have A10 := Aside0.mk A100
            clear A100
            have H' := Aside0.mk H
            clear H
            go_wp2_with (first | (go_at_call 21; (with_reducible refine (Given.law10_awake.calls  t101 _ A10.out).mono ?_); rintro e w11 ⟨rfl, hb⟩; have n0_ := Aside0.mk (below_step (by repeat (first | (with_reducible first | exact HB.out | apply below_alloc | apply pw_below_drewN | apply below_drew1) | exact HB.out)) hb); clear HB; have HB := n0_; clear n0_; (try clear hb); (try clear hb2); (try clear hk); (try clear hi)))
            repeat (go_quiet (first | (go_at_call 21; (with_reducible refine (Given.law10_awake.calls  t101 _ A10.out).mono ?_); rintro e w11 ⟨rfl, hb⟩; have n0_ := Aside0.mk (below_step (by repeat (first | (with_reducible first | exact HB.out | apply below_alloc | apply pw_below_drewN | apply below_drew1) | exact HB.out)) hb); clear HB; have HB := n0_; clear n0_; (try clear hb); (try clear hb2); (try clear hk); (try clear hi))); try go_wp2_with (first | (go_at_call 21; (with_reducible refine (Given.law10_awake.calls  t101 _ A10.out).mono ?_); rintro e w11 ⟨rfl, hb⟩; have n0_ := Aside0.mk (below_step (by repeat (first | (with_reducible first | exact HB.out | apply below_alloc | apply pw_below_drewN | apply below_drew1) | exact HB.out)) hb); clear HB; have HB := n0_; clear n0_; (try clear hb); (try clear hb2); (try clear hk); (try clear hi))))
            go_meet
            case rel => exact ⟨_, (!t101), (by first | rfl | (simp; done) | (simp [*]; done)), H', ⟨by first | omega | exact Nat.le_refl _⟩, ⟨by repeat (first | (with_reducible first | exact HB.out | apply below_alloc | apply pw_below_drewN | apply below_drew1) | exact HB.out)⟩⟩
      · rw [if_neg c7] at H
        have c7b0 : ((a1.size : Int) == 16) = false := beq_eq_false_iff_ne.mpr c7
        have c7b1 : ((a1.size : Int) != 16) = true := bne_iff_ne.mpr c7
        have H' := Aside0.mk H
        clear H
        go_wp2
        repeat (go_quiet (fail); try go_wp2)
        go_meet
        case rel => exact ⟨_, (true), (by first | rfl | (simp; done) | (simp [*]; done)), H', ⟨by first | omega | exact Nat.le_refl _⟩, ⟨by repeat (first | (with_reducible first | exact HB.out | apply below_alloc | apply pw_below_drewN | apply below_drew1) | exact HB.out)⟩⟩
    · rw [if_neg c6] at H
      have c6b0 : ((a0.size : Int) == 32) = false := beq_eq_false_iff_ne.mpr c6
      have c6b1 : ((a0.size : Int) != 32) = true := bne_iff_ne.mpr c6
      (first | rw [c6b0] | (simp only [i64_w, i32_w]; rw [c6b0]) | skip)
      have H' := Aside0.mk H
      clear H
      go_wp2
      repeat (go_quiet (fail); try go_wp2)
      go_meet
      case rel => exact ⟨_, (true), (by first | rfl | (simp; done) | (simp [*]; done)), H', ⟨by first | omega | exact Nat.le_refl _⟩, ⟨by repeat (first | (with_reducible first | exact HB.out | apply below_alloc | apply pw_below_drewN | apply below_drew1) | exact HB.out)⟩⟩
  case rest =>
    clear HC5
    try clear c1
    try clear p2
    try clear c6
    try clear c6b0
    try clear c6b1
    try clear c7
    try clear c7b0
    try clear c7b1
    try clear c8
    try clear c8b0
    try clear c8b1
    try clear c9
    try clear c9b0
    try clear c9b1
    try clear c11
    obtain ⟨kq, x37_4, rfl, HA, HJ4, HB⟩ := hcut
    cases kq with
    | zero => exact absurd HA.out (by simp [hamperlaw10_CbcChain.j0])
    | succ kj4 =>
      have H := HA.out
      clear HA
      simp only [hamperlaw10_CbcChain.j0] at H
      by_cases c12 : x37_4 = true
      · subst c12
        have H1 : ((Given.law10_awake.f).bind fun t102 => (some t102)) = some r := by rw [if_pos rfl] at H; exact H
        clear H
        have H := H1
        clear H1
        replace H := Option.bind_eq_some_iff.mp H
        obtain ⟨t102, A130, H⟩ := H
        replace H : (some t102) = some r := H
        have A13 := Aside0.mk A130
        clear A130
        obtain rfl := Option.some.inj H
        go_wp2_with (first | (go_at_call 21; (with_reducible refine (Given.law10_awake.calls  t102 _ A13.out).mono ?_); rintro e w14 ⟨rfl, hb⟩; have n0_ := Aside0.mk (below_step (by repeat (first | (with_reducible first | exact HB.out | apply below_alloc | apply pw_below_drewN | apply below_drew1) | exact HB.out)) hb); clear HB; have HB := n0_; clear n0_; (try clear hb); (try clear hb2); (try clear hk); (try clear hi)))
        repeat (go_quiet (first | (go_at_call 21; (with_reducible refine (Given.law10_awake.calls  t102 _ A13.out).mono ?_); rintro e w14 ⟨rfl, hb⟩; have n0_ := Aside0.mk (below_step (by repeat (first | (with_reducible first | exact HB.out | apply below_alloc | apply pw_below_drewN | apply below_drew1) | exact HB.out)) hb); clear HB; have HB := n0_; clear n0_; (try clear hb); (try clear hb2); (try clear hk); (try clear hi))); try go_wp2_with (first | (go_at_call 21; (with_reducible refine (Given.law10_awake.calls  t102 _ A13.out).mono ?_); rintro e w14 ⟨rfl, hb⟩; have n0_ := Aside0.mk (below_step (by repeat (first | (with_reducible first | exact HB.out | apply below_alloc | apply pw_below_drewN | apply below_drew1) | exact HB.out)) hb); clear HB; have HB := n0_; clear n0_; (try clear hb); (try clear hb2); (try clear hk); (try clear hi))))
        go_ret
        exact ⟨by first | rfl | (simp [errW_none, errW_some] <;> rfl) | (simp [*, errW_none, errW_some] <;> rfl), by repeat (first | (with_reducible first | exact HB.out | apply below_alloc | apply pw_below_drewN | apply below_drew1) | exact HB.out)⟩
      · replace c12 := Bool.eq_false_iff.mpr c12
        subst c12
        have H1 : ((Given.cbc_Seal.f a0 a1 a2).bind fun bt103 => ((Given.cbc_Seal.f a0 a1 a3).bind fun bt105 => (if bt103.2 = 0 then (hamperlaw10_CbcChain.j1 kj4 a2 a3 bt103.1 bt105.1 (bt105.2 != 0)) else (hamperlaw10_CbcChain.j1 kj4 a2 a3 bt103.1 bt105.1 true)))) = some r := by rw [if_neg (show ¬ (false = true) by decide)] at H; exact H
        clear H
        have H := H1
        clear H1
        replace H := Option.bind_eq_some_iff.mp H
        obtain ⟨⟨t103, t104⟩, A150, H⟩ := H
        replace H : ((Given.cbc_Seal.f a0 a1 a3).bind fun bt105 => (if t104 = 0 then (hamperlaw10_CbcChain.j1 kj4 a2 a3 t103 bt105.1 (bt105.2 != 0)) else (hamperlaw10_CbcChain.j1 kj4 a2 a3 t103 bt105.1 true))) = some r := H
        have A15 := Aside0.mk A150
        clear A150
        replace H := Option.bind_eq_some_iff.mp H
        obtain ⟨⟨t105, t106⟩, A160, H⟩ := H
        replace H : (if t104 = 0 then (hamperlaw10_CbcChain.j1 kj4 a2 a3 t103 t105 (t106 != 0)) else (hamperlaw10_CbcChain.j1 kj4 a2 a3 t103 t105 true)) = some r := H
        have A16 := Aside0.mk A160
        clear A160
        have HC17 := Aside0.mk H
        clear H
        go_upto_region 5 with (first | (go_at_call 22; (with_reducible refine (Given.cbc_Seal.calls a0 a1 a2 t103 t104 _ A15.out).mono ?_); rintro e w18 ⟨rfl, hb⟩; have n0_ := Aside0.mk (below_step (by repeat (first | (with_reducible first | exact HB.out | apply below_alloc | apply pw_below_drewN | apply below_drew1) | exact HB.out)) hb); clear HB; have HB := n0_; clear n0_; (try clear hb); (try clear hb2); (try clear hk); (try clear hi)) | (go_at_call 22; (with_reducible refine (Given.cbc_Seal.calls a0 a1 a3 t105 t106 _ A16.out).mono ?_); rintro e w19 ⟨rfl, hb⟩; have n0_ := Aside0.mk (below_step (by repeat (first | (with_reducible first | exact HB.out | apply below_alloc | apply pw_below_drewN | apply below_drew1) | exact HB.out)) hb); clear HB; have HB := n0_; clear n0_; (try clear hb); (try clear hb2); (try clear hk); (try clear hi)))
        repeat (go_quiet (first | (go_at_call 22; (with_reducible refine (Given.cbc_Seal.calls a0 a1 a2 t103 t104 _ A15.out).mono ?_); rintro e w18 ⟨rfl, hb⟩; have n0_ := Aside0.mk (below_step (by repeat (first | (with_reducible first | exact HB.out | apply below_alloc | apply pw_below_drewN | apply below_drew1) | exact HB.out)) hb); clear HB; have HB := n0_; clear n0_; (try clear hb); (try clear hb2); (try clear hk); (try clear hi)) | (go_at_call 22; (with_reducible refine (Given.cbc_Seal.calls a0 a1 a3 t105 t106 _ A16.out).mono ?_); rintro e w19 ⟨rfl, hb⟩; have n0_ := Aside0.mk (below_step (by repeat (first | (with_reducible first | exact HB.out | apply below_alloc | apply pw_below_drewN | apply below_drew1) | exact HB.out)) hb); clear HB; have HB := n0_; clear n0_; (try clear hb); (try clear hb2); (try clear hk); (try clear hi))); go_upto_region 5 with (first | (go_at_call 22; (with_reducible refine (Given.cbc_Seal.calls a0 a1 a2 t103 t104 _ A15.out).mono ?_); rintro e w18 ⟨rfl, hb⟩; have n0_ := Aside0.mk (below_step (by repeat (first | (with_reducible first | exact HB.out | apply below_alloc | apply pw_below_drewN | apply below_drew1) | exact HB.out)) hb); clear HB; have HB := n0_; clear n0_; (try clear hb); (try clear hb2); (try clear hk); (try clear hi)) | (go_at_call 22; (with_reducible refine (Given.cbc_Seal.calls a0 a1 a3 t105 t106 _ A16.out).mono ?_); rintro e w19 ⟨rfl, hb⟩; have n0_ := Aside0.mk (below_step (by repeat (first | (with_reducible first | exact HB.out | apply below_alloc | apply pw_below_drewN | apply below_drew1) | exact HB.out)) hb); clear HB; have HB := n0_; clear n0_; (try clear hb); (try clear hb2); (try clear hk); (try clear hi))))
        (try simp only [Act.put, List.setIfInBounds_toArray, List.set_cons_zero, List.set_cons_succ])
        go_cut [58] (fun v58 wc => ∃ (kq : Nat) (x58_16 : Bool), v58 = .bool x58_16 ∧ Aside0 (hamperlaw10_CbcChain.j1 kq a2 a3 t103 t105 x58_16 = some r) ∧ Aside0 (kq ≤ kj4) ∧ Aside0 (Below w.heap.size w wc))
        case first =>
          have H := HC17.out
          clear HC17
          by_cases c20 : t104 = 0
          · rw [if_pos c20] at H
            have c20b0 : (t104 == 0) = true := beq_iff_eq.mpr c20
            have c20b1 : (t104 != 0) = false := bne_eq_false_iff_eq.mpr c20
            clear c20
            (first | rw [c20b0] | (simp only [i64_w, i32_w]; rw [c20b0]) | skip)
            have H' := Aside0.mk H
            clear H
            go_wp2
            repeat (go_quiet (fail); try go_wp2)
            go_meet
            case rel => exact ⟨_, ((t106 != 0)), (by first | rfl | (simp; done) | (simp [*]; done)), H', ⟨by have := HJ4.out; first | omega | exact Nat.le_refl _⟩, ⟨by repeat (first | (with_reducible first | exact HB.out | apply below_alloc | apply pw_below_drewN | apply below_drew1) | exact HB.out)⟩⟩
          · rw [if_neg c20] at H
            have c20b0 : (t104 == 0) = false := beq_eq_false_iff_ne.mpr c20
            have c20b1 : (t104 != 0) = true := bne_iff_ne.mpr c20
            (first | rw [c20b0] | (simp only [i64_w, i32_w]; rw [c20b0]) | skip)
            have H' := Aside0.mk H
            clear H
            go_wp2
            repeat (go_quiet (fail); try go_wp2)
            go_meet
            case rel => exact ⟨_, (true), (by first | rfl | (simp; done) | (simp [*]; done)), H', ⟨by have := HJ4.out; first | omega | exact Nat.le_refl _⟩, ⟨by repeat (first | (with_reducible first | exact HB.out | apply below_alloc | apply pw_below_drewN | apply below_drew1) | exact HB.out)⟩⟩
        case rest =>
          clear HC17
          try clear c1
          try clear c2
          try clear p2
          try clear c6
          try clear c6b0
          try clear c6b1
          try clear c7
          try clear c7b0
          try clear c7b1
          try clear c8
          try clear c8b0
          try clear c8b1
          try clear c9
          try clear c9b0
          try clear c9b1
          try clear c11
          try clear c12
          try clear c20
          try clear c20b0
          try clear c20b1
          try clear p2
          obtain ⟨kq, x58_16, rfl, HA, HJ16, HB⟩ := hcut
          cases kq with
          | zero => exact absurd HA.out (by simp [hamperlaw10_CbcChain.j1])
          | succ kj16 =>
            have H := HA.out
            clear HA
            simp only [hamperlaw10_CbcChain.j1] at H
            by_cases c21 : x58_16 = true
            · subst c21
              have H1 : (some false) = some r := by rw [if_pos rfl] at H; exact H
              clear H
              have H := H1
              clear H1
              exact absurd ((Option.some.inj H).trans hr_.out) Bool.false_ne_true
            · replace c21 := Bool.eq_false_iff.mpr c21
              subst c21
              have H1 : ((Given.cbc_Frame.f a2).bind fun t107 => ((Given.cbc_Frame.f a3).bind fun t108 => (hamperlaw10_CbcChain.l0 kj16 t103 t105 t107 t108 0))) = some r := by rw [if_neg (show ¬ (false = true) by decide)] at H; exact H
              clear H
              have H := H1
              clear H1
              replace H := Option.bind_eq_some_iff.mp H
              obtain ⟨t107, A220, H⟩ := H
              replace H : ((Given.cbc_Frame.f a3).bind fun t108 => (hamperlaw10_CbcChain.l0 kj16 t103 t105 t107 t108 0)) = some r := H
              have A22 := Aside0.mk A220
              clear A220
              replace H := Option.bind_eq_some_iff.mp H
              obtain ⟨t108, A230, H⟩ := H
              replace H : (hamperlaw10_CbcChain.l0 kj16 t103 t105 t107 t108 0) = some r := H
              have A23 := Aside0.mk A230
              clear A230
              have H' := Aside0.mk H
              clear H
              go_wp2_with (first | (go_at_call 26; (with_reducible refine (Given.cbc_Frame.calls a2 t107 _ A22.out).mono ?_); rintro e w24 ⟨rfl, hb⟩; have n0_ := Aside0.mk (below_step (by repeat (first | (with_reducible first | exact HB.out | apply below_alloc | apply pw_below_drewN | apply below_drew1) | exact HB.out)) hb); clear HB; have HB := n0_; clear n0_; (try clear hb); (try clear hb2); (try clear hk); (try clear hi)) | (go_at_call 26; (with_reducible refine (Given.cbc_Frame.calls a3 t108 _ A23.out).mono ?_); rintro e w25 ⟨rfl, hb⟩; have n0_ := Aside0.mk (below_step (by repeat (first | (with_reducible first | exact HB.out | apply below_alloc | apply pw_below_drewN | apply below_drew1) | exact HB.out)) hb); clear HB; have HB := n0_; clear n0_; (try clear hb); (try clear hb2); (try clear hk); (try clear hi)))
              repeat (go_quiet (first | (go_at_call 26; (with_reducible refine (Given.cbc_Frame.calls a2 t107 _ A22.out).mono ?_); rintro e w24 ⟨rfl, hb⟩; have n0_ := Aside0.mk (below_step (by repeat (first | (with_reducible first | exact HB.out | apply below_alloc | apply pw_below_drewN | apply below_drew1) | exact HB.out)) hb); clear HB; have HB := n0_; clear n0_; (try clear hb); (try clear hb2); (try clear hk); (try clear hi)) | (go_at_call 26; (with_reducible refine (Given.cbc_Frame.calls a3 t108 _ A23.out).mono ?_); rintro e w25 ⟨rfl, hb⟩; have n0_ := Aside0.mk (below_step (by repeat (first | (with_reducible first | exact HB.out | apply below_alloc | apply pw_below_drewN | apply below_drew1) | exact HB.out)) hb); clear HB; have HB := n0_; clear n0_; (try clear hb); (try clear hb2); (try clear hk); (try clear hi))); try go_wp2_with (first | (go_at_call 26; (with_reducible refine (Given.cbc_Frame.calls a2 t107 _ A22.out).mono ?_); rintro e w24 ⟨rfl, hb⟩; have n0_ := Aside0.mk (below_step (by repeat (first | (with_reducible first | exact HB.out | apply below_alloc | apply pw_below_drewN | apply below_drew1) | exact HB.out)) hb); clear HB; have HB := n0_; clear n0_; (try clear hb); (try clear hb2); (try clear hk); (try clear hi)) | (go_at_call 26; (with_reducible refine (Given.cbc_Frame.calls a3 t108 _ A23.out).mono ?_); rintro e w25 ⟨rfl, hb⟩; have n0_ := Aside0.mk (below_step (by repeat (first | (with_reducible first | exact HB.out | apply below_alloc | apply pw_below_drewN | apply below_drew1) | exact HB.out)) hb); clear HB; have HB := n0_; clear n0_; (try clear hb); (try clear hb2); (try clear hk); (try clear hi))))
              go_loopg [15] kj16 (fun kq v15 w' => ∃ (x15_3 : Int), v15 = .int .i64 x15_3 ∧ Aside0 (hamperlaw10_CbcChain.l0 kq t103 t105 t107 t108 x15_3 = some r) ∧ Aside0 (kq ≤ kj16) ∧ Aside0 (Below w.heap.size w w'))
              case atStart => exact ⟨(0), (by first | rfl | (simp; done) | (simp [*]; done)), H', ⟨Nat.le_refl _⟩, ⟨by repeat (first | (with_reducible first | exact HB.out | apply below_alloc | apply pw_below_drewN | apply below_drew1) | exact HB.out)⟩⟩
              case round =>
                clear H'
                try clear c1
                try clear c2
                try clear p2
                try clear c6
                try clear c6b0
                try clear c6b1
                try clear c7
                try clear c7b0
                try clear c7b1
                try clear c8
                try clear c8b0
                try clear c8b1
                try clear c9
                try clear c9b0
                try clear c9b1
                try clear c11
                try clear c12
                try clear c20
                try clear c20b0
                try clear c20b1
                try clear c21
                try clear p2
                obtain ⟨x15_3, rfl, HA, HK3, HB⟩ := hrel
                cases gk with
                | zero => exact absurd HA.out (by simp [hamperlaw10_CbcChain.l0])
                | succ k3 =>
                  have H := HA.out
                  clear HA
                  simp only [hamperlaw10_CbcChain.l0] at H
                  have HC26 := Aside0.mk H
                  clear H
                  go_upto_region 9 with (fail)
                  repeat (go_quiet (fail); go_upto_region 9 with (fail))
                  go_cut [74] (fun v74 wc => ∃ (kq : Nat) (x74_25 : Bool), v74 = .bool x74_25 ∧ Aside0 (hamperlaw10_CbcChain.j3 kq t103 t105 t107 t108 x15_3 x74_25 = some r) ∧ Aside0 (kq ≤ k3) ∧ Aside0 (Below w.heap.size w wc))
                  case first =>
                    have H := HC26.out
                    clear HC26
                    by_cases c27 : (wrap64 (x15_3 + 16)) ≤ (t107.size : Int)
                    · rw [if_pos c27] at H
                      have c27b0 : decide ((wrap64 (x15_3 + 16)) ≤ (t107.size : Int)) = true := decide_eq_true c27
                      clear c27
                      (first | rw [c27b0] | (simp only [i64_w, i32_w]; rw [c27b0]) | skip)
                      have H' := Aside0.mk H
                      clear H
                      go_wp2
                      repeat (go_quiet (fail); try go_wp2)
                      go_meet
                      case rel => exact ⟨_, (decide ((wrap64 (x15_3 + 16)) ≤ (t108.size : Int))), (by first | rfl | (simp; done) | (simp [*]; done)), H', ⟨by have := HJ4.out; have := HJ16.out; have := HK3.out; first | omega | exact Nat.le_refl _⟩, ⟨by repeat (first | (with_reducible first | exact HB.out | apply below_alloc | apply pw_below_drewN | apply below_drew1) | exact HB.out)⟩⟩
                    · rw [if_neg c27] at H
                      have c27b0 : decide ((wrap64 (x15_3 + 16)) ≤ (t107.size : Int)) = false := decide_eq_false c27
                      clear c27
                      (first | rw [c27b0] | (simp only [i64_w, i32_w]; rw [c27b0]) | skip)
                      have H' := Aside0.mk H
                      clear H
                      go_wp2
                      repeat (go_quiet (fail); try go_wp2)
                      go_meet
                      case rel => exact ⟨_, (false), (by first | rfl | (simp; done) | (simp [*]; done)), H', ⟨by have := HJ4.out; have := HJ16.out; have := HK3.out; first | omega | exact Nat.le_refl _⟩, ⟨by repeat (first | (with_reducible first | exact HB.out | apply below_alloc | apply pw_below_drewN | apply below_drew1) | exact HB.out)⟩⟩
                  case rest =>
                    clear HC26
                    try clear c1
                    try clear c2
                    try clear p2
                    try clear c6
                    try clear c6b0
                    try clear c6b1
                    try clear p6
                    try clear c7
                    try clear c7b0
                    try clear c7b1
                    try clear c8
                    try clear c8b0
                    try clear c8b1
                    try clear c9
                    try clear c9b0
                    try clear c9b1
                    try clear c11
                    try clear c12
                    try clear c20
                    try clear c20b0
                    try clear c20b1
                    try clear c21
                    try clear c27
                    try clear c27b0
                    try clear p2
                    obtain ⟨kq, x74_25, rfl, HA, HJ25, HB⟩ := hcut
                    cases kq with
                    | zero => exact absurd HA.out (by simp [hamperlaw10_CbcChain.j3])
                    | succ kj25 =>
                      have H := HA.out
                      clear HA
                      simp only [hamperlaw10_CbcChain.j3] at H
                      by_cases c28 : x74_25 = true
                      · subst c28
                        have H1 : (if 0 ≤ x15_3 then (if x15_3 ≤ (wrap64 (x15_3 + 16)) then (if (wrap64 (x15_3 + 16)) ≤ (t103.size : Int) then (if (wrap64 (x15_3 + 16)) ≤ (t105.size : Int) then (if (t103.extract (x15_3 : Int).toNat ((wrap64 (x15_3 + 16)) : Int).toNat).toList = (t105.extract (x15_3 : Int).toNat ((wrap64 (x15_3 + 16)) : Int).toNat).toList then (if (wrap64 (x15_3 + 16)) ≤ (t107.size : Int) then (if (wrap64 (x15_3 + 16)) ≤ (t108.size : Int) then (if (t107.extract (x15_3 : Int).toNat ((wrap64 (x15_3 + 16)) : Int).toNat).toList = (t108.extract (x15_3 : Int).toNat ((wrap64 (x15_3 + 16)) : Int).toNat).toList then (hamperlaw10_CbcChain.l0 kj25 t103 t105 t107 t108 (wrap64 (x15_3 + 16))) else (some (((t103.extract (x15_3 : Int).toNat ((wrap64 (x15_3 + 16)) : Int).toNat).toList == (t105.extract (x15_3 : Int).toNat ((wrap64 (x15_3 + 16)) : Int).toNat).toList) == ((t107.extract (x15_3 : Int).toNat ((wrap64 (x15_3 + 16)) : Int).toNat).toList == (t108.extract (x15_3 : Int).toNat ((wrap64 (x15_3 + 16)) : Int).toNat).toList)))) else (none)) else (none)) else (if (wrap64 (x15_3 + 16)) ≤ (t107.size : Int) then (if (wrap64 (x15_3 + 16)) ≤ (t108.size : Int) then (some (((t103.extract (x15_3 : Int).toNat ((wrap64 (x15_3 + 16)) : Int).toNat).toList == (t105.extract (x15_3 : Int).toNat ((wrap64 (x15_3 + 16)) : Int).toNat).toList) == ((t107.extract (x15_3 : Int).toNat ((wrap64 (x15_3 + 16)) : Int).toNat).toList == (t108.extract (x15_3 : Int).toNat ((wrap64 (x15_3 + 16)) : Int).toNat).toList))) else (none)) else (none))) else (none)) else (none)) else (none)) else (none)) = some r := by rw [if_pos rfl] at H; exact H
                        clear H
                        have H := H1
                        clear H1
                        by_cases c29 : 0 ≤ x15_3
                        · rw [if_pos c29] at H
                          have c29b0 := eq_true c29
                          have c29b1 : decide (0 ≤ x15_3) = true := decide_eq_true c29
                          clear c29
                          by_cases c30 : x15_3 ≤ (wrap64 (x15_3 + 16))
                          · rw [if_pos c30] at H
                            have c30b0 := eq_true c30
                            have c30b1 : decide (x15_3 ≤ (wrap64 (x15_3 + 16))) = true := decide_eq_true c30
                            by_cases c31 : (wrap64 (x15_3 + 16)) ≤ (t103.size : Int)
                            · rw [if_pos c31] at H
                              have c31b0 := eq_true c31
                              have c31b1 : decide ((wrap64 (x15_3 + 16)) ≤ (t103.size : Int)) = true := decide_eq_true c31
                              have c32b0 := eq_true (of_decide_eq_true (by first | (with_reducible assumption) | assumption) : 0 ≤ x15_3)
                              have c33b0 := eq_true (of_decide_eq_true (by first | (with_reducible assumption) | assumption) : x15_3 ≤ (wrap64 (x15_3 + 16)))
                              by_cases c34 : (wrap64 (x15_3 + 16)) ≤ (t105.size : Int)
                              · rw [if_pos c34] at H
                                have c34b0 := eq_true c34
                                have c34b1 : decide ((wrap64 (x15_3 + 16)) ≤ (t105.size : Int)) = true := decide_eq_true c34
                                by_cases c35 : (t103.extract (x15_3 : Int).toNat ((wrap64 (x15_3 + 16)) : Int).toNat).toList = (t105.extract (x15_3 : Int).toNat ((wrap64 (x15_3 + 16)) : Int).toNat).toList
                                · rw [if_pos c35] at H
                                  have c35b0 : ((t103.extract (x15_3 : Int).toNat ((wrap64 (x15_3 + 16)) : Int).toNat).toList == (t105.extract (x15_3 : Int).toNat ((wrap64 (x15_3 + 16)) : Int).toNat).toList) = true := beq_iff_eq.mpr c35
                                  have c35b1 : ((t103.extract (x15_3 : Int).toNat ((wrap64 (x15_3 + 16)) : Int).toNat).toList != (t105.extract (x15_3 : Int).toNat ((wrap64 (x15_3 + 16)) : Int).toNat).toList) = false := bne_eq_false_iff_eq.mpr c35
                                  clear c35
                                  have c36b0 := eq_true (of_decide_eq_true (by first | (with_reducible assumption) | assumption) : 0 ≤ x15_3)
                                  have c37b0 := eq_true (of_decide_eq_true (by first | (with_reducible assumption) | assumption) : x15_3 ≤ (wrap64 (x15_3 + 16)))
                                  by_cases c38 : (wrap64 (x15_3 + 16)) ≤ (t107.size : Int)
                                  · rw [if_pos c38] at H
                                    have c38b0 := eq_true c38
                                    have c38b1 : decide ((wrap64 (x15_3 + 16)) ≤ (t107.size : Int)) = true := decide_eq_true c38
                                    have c39b0 := eq_true (of_decide_eq_true (by first | (with_reducible assumption) | assumption) : 0 ≤ x15_3)
                                    have c40b0 := eq_true (of_decide_eq_true (by first | (with_reducible assumption) | assumption) : x15_3 ≤ (wrap64 (x15_3 + 16)))
                                    by_cases c41 : (wrap64 (x15_3 + 16)) ≤ (t108.size : Int)
                                    · rw [if_pos c41] at H
                                      have c41b0 := eq_true c41
                                      have c41b1 : decide ((wrap64 (x15_3 + 16)) ≤ (t108.size : Int)) = true := decide_eq_true c41
                                      by_cases c42 : (t107.extract (x15_3 : Int).toNat ((wrap64 (x15_3 + 16)) : Int).toNat).toList = (t108.extract (x15_3 : Int).toNat ((wrap64 (x15_3 + 16)) : Int).toNat).toList
                                      · rw [if_pos c42] at H
                                        have c42b0 : ((t107.extract (x15_3 : Int).toNat ((wrap64 (x15_3 + 16)) : Int).toNat).toList == (t108.extract (x15_3 : Int).toNat ((wrap64 (x15_3 + 16)) : Int).toNat).toList) = true := beq_iff_eq.mpr c42
                                        have c42b1 : ((t107.extract (x15_3 : Int).toNat ((wrap64 (x15_3 + 16)) : Int).toNat).toList != (t108.extract (x15_3 : Int).toNat ((wrap64 (x15_3 + 16)) : Int).toNat).toList) = false := bne_eq_false_iff_eq.mpr c42
                                        clear c42
                                        have H' := Aside0.mk H
                                        clear H
                                        go_wp2
                                        repeat (go_quiet (fail); try go_wp2)
                                        go_roundg kj25
                                        case measure => have := HJ4.out; have := HJ16.out; have := HK3.out; have := HJ25.out; omega
                                        case rel => exact ⟨(wrap64 (x15_3 + 16)), (by first | rfl | (simp; done) | (simp [*]; done)), H', ⟨by have := HJ4.out; have := HJ16.out; have := HK3.out; have := HJ25.out; omega⟩, ⟨by repeat (first | (with_reducible first | exact HB.out | apply below_alloc | apply pw_below_drewN | apply below_drew1) | exact HB.out)⟩⟩
                                      · rw [if_neg c42] at H
                                        have c42b0 : ((t107.extract (x15_3 : Int).toNat ((wrap64 (x15_3 + 16)) : Int).toNat).toList == (t108.extract (x15_3 : Int).toNat ((wrap64 (x15_3 + 16)) : Int).toNat).toList) = false := beq_eq_false_iff_ne.mpr c42
                                        have c42b1 : ((t107.extract (x15_3 : Int).toNat ((wrap64 (x15_3 + 16)) : Int).toNat).toList != (t108.extract (x15_3 : Int).toNat ((wrap64 (x15_3 + 16)) : Int).toNat).toList) = true := bne_iff_ne.mpr c42
                                        have c43b0 := eq_true (of_decide_eq_true (by first | (with_reducible assumption) | assumption) : 0 ≤ x15_3)
                                        have c44b0 := eq_true (of_decide_eq_true (by first | (with_reducible assumption) | assumption) : x15_3 ≤ (wrap64 (x15_3 + 16)))
                                        have c45b0 := eq_true (of_decide_eq_true (by first | (with_reducible assumption) | assumption) : (wrap64 (x15_3 + 16)) ≤ (t103.size : Int))
                                        have c46b0 := eq_true (of_decide_eq_true (by first | (with_reducible assumption) | assumption) : 0 ≤ x15_3)
                                        have c47b0 := eq_true (of_decide_eq_true (by first | (with_reducible assumption) | assumption) : x15_3 ≤ (wrap64 (x15_3 + 16)))
                                        have c48b0 := eq_true (of_decide_eq_true (by first | (with_reducible assumption) | assumption) : (wrap64 (x15_3 + 16)) ≤ (t105.size : Int))
                                        have c49b0 := eq_true (of_decide_eq_true (by first | (with_reducible assumption) | assumption) : 0 ≤ x15_3)
                                        have c50b0 := eq_true (of_decide_eq_true (by first | (with_reducible assumption) | assumption) : x15_3 ≤ (wrap64 (x15_3 + 16)))
                                        have c51b0 := eq_true (of_decide_eq_true (by first | (with_reducible assumption) | assumption) : (wrap64 (x15_3 + 16)) ≤ (t107.size : Int))
                                        have c52b0 := eq_true (of_decide_eq_true (by first | (with_reducible assumption) | assumption) : 0 ≤ x15_3)
                                        have c53b0 := eq_true (of_decide_eq_true (by first | (with_reducible assumption) | assumption) : x15_3 ≤ (wrap64 (x15_3 + 16)))
                                        have c54b0 := eq_true (of_decide_eq_true (by first | (with_reducible assumption) | assumption) : (wrap64 (x15_3 + 16)) ≤ (t108.size : Int))
                                        obtain rfl := Option.some.inj H
                                        go_wp2
                                        repeat (go_quiet (fail); try go_wp2)
                                        go_ret
                                        exact ⟨by first | rfl | (simp [errW_none, errW_some] <;> rfl) | (simp [*, errW_none, errW_some] <;> rfl), by repeat (first | (with_reducible first | exact HB.out | apply below_alloc | apply pw_below_drewN | apply below_drew1) | exact HB.out)⟩
                                    · rw [if_neg c41] at H
                                      exact absurd H (by simp)
                                  · rw [if_neg c38] at H
                                    exact absurd H (by simp)
                                · rw [if_neg c35] at H
                                  have c35b0 : ((t103.extract (x15_3 : Int).toNat ((wrap64 (x15_3 + 16)) : Int).toNat).toList == (t105.extract (x15_3 : Int).toNat ((wrap64 (x15_3 + 16)) : Int).toNat).toList) = false := beq_eq_false_iff_ne.mpr c35
                                  have c35b1 : ((t103.extract (x15_3 : Int).toNat ((wrap64 (x15_3 + 16)) : Int).toNat).toList != (t105.extract (x15_3 : Int).toNat ((wrap64 (x15_3 + 16)) : Int).toNat).toList) = true := bne_iff_ne.mpr c35
                                  have c55b0 := eq_true (of_decide_eq_true (by first | (with_reducible assumption) | assumption) : 0 ≤ x15_3)
                                  have c56b0 := eq_true (of_decide_eq_true (by first | (with_reducible assumption) | assumption) : x15_3 ≤ (wrap64 (x15_3 + 16)))
                                  have c57b0 := eq_true (of_decide_eq_true (by first | (with_reducible assumption) | assumption) : (wrap64 (x15_3 + 16)) ≤ (t103.size : Int))
                                  have c58b0 := eq_true (of_decide_eq_true (by first | (with_reducible assumption) | assumption) : 0 ≤ x15_3)
                                  have c59b0 := eq_true (of_decide_eq_true (by first | (with_reducible assumption) | assumption) : x15_3 ≤ (wrap64 (x15_3 + 16)))
                                  have c60b0 := eq_true (of_decide_eq_true (by first | (with_reducible assumption) | assumption) : (wrap64 (x15_3 + 16)) ≤ (t105.size : Int))
                                  have c61b0 := eq_true (of_decide_eq_true (by first | (with_reducible assumption) | assumption) : 0 ≤ x15_3)
                                  have c62b0 := eq_true (of_decide_eq_true (by first | (with_reducible assumption) | assumption) : x15_3 ≤ (wrap64 (x15_3 + 16)))
                                  by_cases c63 : (wrap64 (x15_3 + 16)) ≤ (t107.size : Int)
                                  · rw [if_pos c63] at H
                                    have c63b0 := eq_true c63
                                    have c63b1 : decide ((wrap64 (x15_3 + 16)) ≤ (t107.size : Int)) = true := decide_eq_true c63
                                    have c64b0 := eq_true (of_decide_eq_true (by first | (with_reducible assumption) | assumption) : 0 ≤ x15_3)
                                    have c65b0 := eq_true (of_decide_eq_true (by first | (with_reducible assumption) | assumption) : x15_3 ≤ (wrap64 (x15_3 + 16)))
                                    by_cases c66 : (wrap64 (x15_3 + 16)) ≤ (t108.size : Int)
                                    · rw [if_pos c66] at H
                                      have c66b0 := eq_true c66
                                      have c66b1 : decide ((wrap64 (x15_3 + 16)) ≤ (t108.size : Int)) = true := decide_eq_true c66
                                      obtain rfl := Option.some.inj H
                                      go_wp2
                                      repeat (go_quiet (fail); try go_wp2)
                                      go_ret
                                      exact ⟨by first | rfl | (simp [errW_none, errW_some] <;> rfl) | (simp [*, errW_none, errW_some] <;> rfl), by repeat (first | (with_reducible first | exact HB.out | apply below_alloc | apply pw_below_drewN | apply below_drew1) | exact HB.out)⟩
                                    · rw [if_neg c66] at H
                                      exact absurd H (by simp)
                                  · rw [if_neg c63] at H
                                    exact absurd H (by simp)
                              · rw [if_neg c34] at H
                                exact absurd H (by simp)
                            · rw [if_neg c31] at H
                              exact absurd H (by simp)
                          · rw [if_neg c30] at H
                            exact absurd H (by simp)
                        · rw [if_neg c29] at H
                          exact absurd H (by simp)
                      · replace c28 := Bool.eq_false_iff.mpr c28
                        subst c28
                        have H1 : (some true) = some r := by rw [if_neg (show ¬ (false = true) by decide)] at H; exact H
                        clear H
                        have H := H1
                        clear H1
                        obtain rfl := Option.some.inj H
                        go_wp2
                        repeat (go_quiet (fail); try go_wp2)
                        go_ret
                        exact ⟨by first | rfl | (simp [errW_none, errW_some] <;> rfl) | (simp [*, errW_none, errW_some] <;> rfl), by repeat (first | (with_reducible first | exact HB.out | apply below_alloc | apply pw_below_drewN | apply below_drew1) | exact HB.out)⟩

/-- THE ONE PURE STATEMENT of hamperlaw10_CbcChain: yours. -/
def hamperlaw10_CbcChain.Pure : Prop := ∀ (a0 : ByteArray) (a1 : ByteArray) (a2 : ByteArray) (a3 : ByteArray), a0.size ≤ 140737488351232 → a1.size ≤ 140737488351232 → a2.size ≤ 140737488351232 → a3.size ≤ 140737488351232 → ∃ k, hamperlaw10_CbcChain.f k a0 a1 a2 a3 = some true
theorem hamperlaw10_CbcChain.walk (P : hamperlaw10_CbcChain.Pure) (a0 : ByteArray) (a1 : ByteArray) (a2 : ByteArray) (a3 : ByteArray) (w : World) (w0 : a0.size ≤ 140737488351232) (w1 : a1.size ≤ 140737488351232) (w2 : a2.size ≤ 140737488351232) (w3 : a3.size ≤ 140737488351232) :
    Calls Try.prog 11 #[.string a0, .string a1, .string a2, .string a3] w fun e w' => e = .returned (.bool true) ∧ Below w.heap.size w w' := by
  obtain ⟨k, h⟩ := P a0 a1 a2 a3 w0 w1 w2 w3
  refine (hamperlaw10_CbcChain.calls k a0 a1 a2 a3 true w h ⟨rfl⟩).mono ?_
  rintro e w' ⟨rfl, hd⟩
  exact ⟨rfl, hd⟩

end Go.Proofs.Ytfbcgpgpfpnpnaa.PCbcChain
