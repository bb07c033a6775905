/- The machine side of a law: printed by a program (wip/gprint.py over the kit's print), with the contracts of some functions proved by hand. Conditions: as each theorem names them. -/
import Derived.Test.YtfbcgpgpfpnpnaaPCbcTellsx0
import Derived.Test.YtfbcgpgpfpnpnaaPCbcTellsx1
import Derived.Test.YtfbcgpgpfpnpnaaPCbcTellsx2
namespace Go.Proofs.Ytfbcgpgpfpnpnaa.PCbcTells
open Go.RowKit Go.Proofs.YtfbcgpgpfpnpnaaW.PrintWords Go.Proofs.YtfbcgpgpfpnpnaaW.PrintLast Go.Proofs.YtfbcgpgpfpnpnaaW.PrintMore
attribute [local go_sem] max2_int min2_int max_two min_two max_three min_three max_four min_four   -- for this text's walks alone
set_option linter.unusedVariables false
set_option linter.unusedSimpArgs false

/-! ### hamperlaw10_CbcTells: function 8 -/
def hamperlaw10_CbcTells.j0 : Nat → ByteArray → ByteArray → ByteArray → ByteArray → Bool → Option (Bool)
  | 0, _, _, _, _, _ => none
  | k + 1, x0, x1, x2, x3, x34 => if x34 = true then ((Given.law10_awake.f).bind fun t118 => (some t118)) else ((Given.cbc_Seal.f x0 x1 x2).bind fun bt119 => ((hamperref10_Seal.f k x0 x1 x2).bind fun bt121 => ((Given.cbc_Open.f x0 x1 x3).bind fun bt123 => ((hamperref10_Open.f k x0 x1 x3).bind fun bt125 => ((Given.cbc_Frame.f x2).bind fun t127 => ((Given.ref10_Frame.f x2).bind fun t128 => (if t127.toList = t128.toList then (if bt119.1.toList = bt121.1.toList then (if bt119.2 = bt121.2 then (if bt123.1.toList = bt125.1.toList then (if bt123.2 = bt125.2 then ((Given.law10_awake.f).bind fun t129 => (some t129)) else (some false)) else (some false)) else (some false)) else (some false)) else (some false))))))))
def hamperlaw10_CbcTells.f (k : Nat) (a0 : ByteArray) (a1 : ByteArray) (a2 : ByteArray) (a3 : ByteArray) : Option (Bool) := if (a0.size : Int) > 100 then (hamperlaw10_CbcTells.j0 k a0 a1 a2 a3 true) else (if (a1.size : Int) > 100 then (hamperlaw10_CbcTells.j0 k a0 a1 a2 a3 true) else (if (a2.size : Int) > 600 then (hamperlaw10_CbcTells.j0 k a0 a1 a2 a3 true) else (hamperlaw10_CbcTells.j0 k a0 a1 a2 a3 (decide ((a3.size : Int) > 600)))))
theorem hamperlaw10_CbcTells.mono_l : ∀ k, (∀ y0 y1 y2 y3 y4, LeO (hamperlaw10_CbcTells.j0 k y0 y1 y2 y3 y4) (hamperlaw10_CbcTells.j0 (k + 1) y0 y1 y2 y3 y4))
  | 0 => fun _ _ _ _ _ r h => by simp [hamperlaw10_CbcTells.j0] at h
  | k + 1 => by
    have ih0 := hamperlaw10_CbcTells.mono_l k
    · intro y0 y1 y2 y3 y4
      unfold hamperlaw10_CbcTells.j0
      repeat' first
      | (with_reducible exact ih0 _ _ _ _ _)
      | (with_reducible exact hamperref10_Open.mono _ _ _ _)
      | (with_reducible exact hamperref10_Seal.mono _ _ _ _)
      | (with_reducible exact LeO.refl _)
      | (with_reducible exact LeO.none _)
      | (with_reducible refine LeO.ite ?_ ?_)
      | (with_reducible refine LeO.bind ?_ (fun _ => ?_))
      | exact ih0 _ _ _ _ _
      | exact hamperref10_Open.mono _ _ _ _
      | exact hamperref10_Seal.mono _ _ _ _
      | exact LeO.none _
      | refine LeO.ite ?_ ?_
      | refine LeO.bind ?_ (fun _ => ?_)
theorem hamperlaw10_CbcTells.mono : ∀ a0 a1 a2 a3 k, LeO (hamperlaw10_CbcTells.f k a0 a1 a2 a3) (hamperlaw10_CbcTells.f (k + 1) a0 a1 a2 a3) := by
  intro a0 a1 a2 a3 k
  have ih0 := hamperlaw10_CbcTells.mono_l k
  unfold hamperlaw10_CbcTells.f
  repeat' first
      | (with_reducible exact ih0 _ _ _ _ _)
      | (with_reducible exact hamperref10_Open.mono _ _ _ _)
      | (with_reducible exact hamperref10_Seal.mono _ _ _ _)
      | (with_reducible exact LeO.refl _)
      | (with_reducible exact LeO.none _)
      | (with_reducible refine LeO.ite ?_ ?_)
      | (with_reducible refine LeO.bind ?_ (fun _ => ?_))
      | exact ih0 _ _ _ _ _
      | exact hamperref10_Open.mono _ _ _ _
      | exact hamperref10_Seal.mono _ _ _ _
      | exact LeO.none _
      | refine LeO.ite ?_ ?_
      | refine LeO.bind ?_ (fun _ => ?_)
set_option maxHeartbeats 8000000 in
set_option maxRecDepth 100000 in
theorem hamperlaw10_CbcTells.calls (k : Nat) (a0 : ByteArray) (a1 : ByteArray) (a2 : ByteArray) (a3 : ByteArray) (r : Bool) (w : World) (h : hamperlaw10_CbcTells.f k a0 a1 a2 a3 = some r) (hr_ : Aside0 (r = true)) :
    Calls Try.prog 8 #[.string a0, .string a1, .string a2, .string a3] w fun e w' => e = .returned (.bool r) ∧ Below w.heap.size w w' := by
  have HB := Aside0.mk (Below.refl w.heap.size w)
  have H : (if (a0.size : Int) > 100 then (hamperlaw10_CbcTells.j0 k a0 a1 a2 a3 true) else (if (a1.size : Int) > 100 then (hamperlaw10_CbcTells.j0 k a0 a1 a2 a3 true) else (if (a2.size : Int) > 600 then (hamperlaw10_CbcTells.j0 k a0 a1 a2 a3 true) else (hamperlaw10_CbcTells.j0 k a0 a1 a2 a3 (decide ((a3.size : Int) > 600)))))) = some r := h
  clear h
  have HC5 := Aside0.mk H
  clear H
  go_enter Try.func8, Try.ntmps8
  go_upto_region 1 with (fail)
  go_cut [34] (fun v34 wc => ∃ (kq : Nat) (x34_4 : Bool), v34 = .bool x34_4 ∧ Aside0 (hamperlaw10_CbcTells.j0 kq a0 a1 a2 a3 x34_4 = some r) ∧ Aside0 (kq ≤ k) ∧ Aside0 (Below w.heap.size w wc))
  case first =>
    have H := HC5.out
    clear HC5
    by_cases c6 : (a0.size : Int) > 100
    · rw [if_pos c6] at H
      have c6b0 : decide (100 < (a0.size : Int)) = true := decide_eq_true c6
      have c6b1 : decide (100 < a0.size) = true := decide_eq_true (by omega)
      clear c6
      (first | rw [c6b0] | (simp only [i64_w, i32_w]; rw [c6b0]) | skip)
      have H' := Aside0.mk H
      clear H
      go_wp2
      go_meet
      case rel => exact ⟨_, (true), (by first | rfl | (simp; done) | (simp [*]; done)), H', ⟨by first | omega | exact Nat.le_refl _⟩, ⟨by repeat (first | (with_reducible first | exact HB.out | apply below_alloc | apply pw_below_drewN | apply below_drew1) | exact HB.out)⟩⟩
    · rw [if_neg c6] at H
      have c6b0 : decide (100 < (a0.size : Int)) = false := decide_eq_false c6
      have c6b1 : decide (100 < a0.size) = false := decide_eq_false (by omega)
      clear c6
      (first | rw [c6b0] | (simp only [i64_w, i32_w]; rw [c6b0]) | skip)
      by_cases c7 : (a1.size : Int) > 100
      · rw [if_pos c7] at H
        have c7b0 : decide (100 < (a1.size : Int)) = true := decide_eq_true c7
        have c7b1 : decide (100 < a1.size) = true := decide_eq_true (by omega)
        clear c7
        have H' := Aside0.mk H
        clear H
        go_wp2
        go_meet
        case rel => exact ⟨_, (true), (by first | rfl | (simp; done) | (simp [*]; done)), H', ⟨by first | omega | exact Nat.le_refl _⟩, ⟨by repeat (first | (with_reducible first | exact HB.out | apply below_alloc | apply pw_below_drewN | apply below_drew1) | exact HB.out)⟩⟩
      · rw [if_neg c7] at H
        have c7b0 : decide (100 < (a1.size : Int)) = false := decide_eq_false c7
        have c7b1 : decide (100 < a1.size) = false := decide_eq_false (by omega)
        clear c7
        by_cases c8 : (a2.size : Int) > 600
        · rw [if_pos c8] at H
          have c8b0 : decide (600 < (a2.size : Int)) = true := decide_eq_true c8
          have c8b1 : decide (600 < a2.size) = true := decide_eq_true (by omega)
          clear c8
          have H' := Aside0.mk H
          clear H
          go_wp2
          go_meet
          case rel => exact ⟨_, (true), (by first | rfl | (simp; done) | (simp [*]; done)), H', ⟨by first | omega | exact Nat.le_refl _⟩, ⟨by repeat (first | (with_reducible first | exact HB.out | apply below_alloc | apply pw_below_drewN | apply below_drew1) | exact HB.out)⟩⟩
        · rw [if_neg c8] at H
          have c8b0 : decide (600 < (a2.size : Int)) = false := decide_eq_false c8
          have c8b1 : decide (600 < a2.size) = false := decide_eq_false (by omega)
          clear c8
          have H' := Aside0.mk H
          clear H
          go_wp2
          go_meet
          case rel => exact ⟨_, (decide ((a3.size : Int) > 600)), (by first | rfl | (simp; done) | (simp [*]; done)), H', ⟨by first | omega | exact Nat.le_refl _⟩, ⟨by repeat (first | (with_reducible first | exact HB.out | apply below_alloc | apply pw_below_drewN | apply below_drew1) | exact HB.out)⟩⟩
  case rest =>
    clear HC5
    try clear p2
    try clear c6
    try clear c6b0
    try clear c6b1
    try clear c7
    try clear c7b0
    try clear c7b1
    try clear c8
    try clear c8b0
    try clear c8b1
    obtain ⟨kq, x34_4, rfl, HA, HJ4, HB⟩ := hcut
    cases kq with
    | zero => exact absurd HA.out (by simp [hamperlaw10_CbcTells.j0])
    | succ kj4 =>
      have H := HA.out
      clear HA
      simp only [hamperlaw10_CbcTells.j0] at H
      by_cases c9 : x34_4 = true
      · subst c9
        have H1 : ((Given.law10_awake.f).bind fun t118 => (some t118)) = some r := by rw [if_pos rfl] at H; exact H
        clear H
        have H := H1
        clear H1
        replace H := Option.bind_eq_some_iff.mp H
        obtain ⟨t118, A100, H⟩ := H
        replace H : (some t118) = some r := H
        have A10 := Aside0.mk A100
        clear A100
        obtain rfl := Option.some.inj H
        go_wp2_with (first | ((with_reducible refine gate_callee (f := 21) rfl ?_); refine goesL_ (some 35) rfl rfl Try.func21 (by kernel_rfl) rfl #[] rfl (by (try simp only [List.map_toArray, List.map_cons, List.map_nil]); first | done | rfl | (simp only [List.length_drop, List.length_take]; rfl)) ?_; (with_reducible refine (Given.law10_awake.calls  t118 _ A10.out).mono ?_); rintro e w11 ⟨rfl, hb⟩; refine ⟨_, rfl, ?_⟩; have n0_ := Aside0.mk (below_step (by repeat (first | (with_reducible first | exact HB.out | apply below_alloc | apply pw_below_drewN | apply below_drew1) | exact HB.out)) hb); clear HB; have HB := n0_; clear n0_; (try clear hb); (try clear hb2); (try clear hk); (try clear hi)))
        go_ret
        exact ⟨by first | rfl | (simp [errW_none, errW_some] <;> rfl) | (simp [*, errW_none, errW_some] <;> rfl), by repeat (first | (with_reducible first | exact HB.out | apply below_alloc | apply pw_below_drewN | apply below_drew1) | exact HB.out)⟩
      · replace c9 := Bool.eq_false_iff.mpr c9
        subst c9
        have H1 : ((Given.cbc_Seal.f a0 a1 a2).bind fun bt119 => ((hamperref10_Seal.f kj4 a0 a1 a2).bind fun bt121 => ((Given.cbc_Open.f a0 a1 a3).bind fun bt123 => ((hamperref10_Open.f kj4 a0 a1 a3).bind fun bt125 => ((Given.cbc_Frame.f a2).bind fun t127 => ((Given.ref10_Frame.f a2).bind fun t128 => (if t127.toList = t128.toList then (if bt119.1.toList = bt121.1.toList then (if bt119.2 = bt121.2 then (if bt123.1.toList = bt125.1.toList then (if bt123.2 = bt125.2 then ((Given.law10_awake.f).bind fun t129 => (some t129)) else (some false)) else (some false)) else (some false)) else (some false)) else (some false)))))))) = some r := by rw [if_neg (show ¬ (false = true) by decide)] at H; exact H
        clear H
        have H := H1
        clear H1
        replace H := Option.bind_eq_some_iff.mp H
        obtain ⟨⟨t119, t120⟩, A120, H⟩ := H
        replace H : ((hamperref10_Seal.f kj4 a0 a1 a2).bind fun bt121 => ((Given.cbc_Open.f a0 a1 a3).bind fun bt123 => ((hamperref10_Open.f kj4 a0 a1 a3).bind fun bt125 => ((Given.cbc_Frame.f a2).bind fun t127 => ((Given.ref10_Frame.f a2).bind fun t128 => (if t127.toList = t128.toList then (if t119.toList = bt121.1.toList then (if t120 = bt121.2 then (if bt123.1.toList = bt125.1.toList then (if bt123.2 = bt125.2 then ((Given.law10_awake.f).bind fun t129 => (some t129)) else (some false)) else (some false)) else (some false)) else (some false)) else (some false))))))) = some r := H
        have A12 := Aside0.mk A120
        clear A120
        replace H := Option.bind_eq_some_iff.mp H
        obtain ⟨⟨t121, t122⟩, A130, H⟩ := H
        replace H : ((Given.cbc_Open.f a0 a1 a3).bind fun bt123 => ((hamperref10_Open.f kj4 a0 a1 a3).bind fun bt125 => ((Given.cbc_Frame.f a2).bind fun t127 => ((Given.ref10_Frame.f a2).bind fun t128 => (if t127.toList = t128.toList then (if t119.toList = t121.toList then (if t120 = t122 then (if bt123.1.toList = bt125.1.toList then (if bt123.2 = bt125.2 then ((Given.law10_awake.f).bind fun t129 => (some t129)) else (some false)) else (some false)) else (some false)) else (some false)) else (some false)))))) = some r := H
        have A13 := Aside0.mk A130
        clear A130
        replace H := Option.bind_eq_some_iff.mp H
        obtain ⟨⟨t123, t124⟩, A140, H⟩ := H
        replace H : ((hamperref10_Open.f kj4 a0 a1 a3).bind fun bt125 => ((Given.cbc_Frame.f a2).bind fun t127 => ((Given.ref10_Frame.f a2).bind fun t128 => (if t127.toList = t128.toList then (if t119.toList = t121.toList then (if t120 = t122 then (if t123.toList = bt125.1.toList then (if t124 = bt125.2 then ((Given.law10_awake.f).bind fun t129 => (some t129)) else (some false)) else (some false)) else (some false)) else (some false)) else (some false))))) = some r := H
        have A14 := Aside0.mk A140
        clear A140
        replace H := Option.bind_eq_some_iff.mp H
        obtain ⟨⟨t125, t126⟩, A150, H⟩ := H
        replace H : ((Given.cbc_Frame.f a2).bind fun t127 => ((Given.ref10_Frame.f a2).bind fun t128 => (if t127.toList = t128.toList then (if t119.toList = t121.toList then (if t120 = t122 then (if t123.toList = t125.toList then (if t124 = t126 then ((Given.law10_awake.f).bind fun t129 => (some t129)) else (some false)) else (some false)) else (some false)) else (some false)) else (some false)))) = some r := H
        have A15 := Aside0.mk A150
        clear A150
        replace H := Option.bind_eq_some_iff.mp H
        obtain ⟨t127, A160, H⟩ := H
        replace H : ((Given.ref10_Frame.f a2).bind fun t128 => (if t127.toList = t128.toList then (if t119.toList = t121.toList then (if t120 = t122 then (if t123.toList = t125.toList then (if t124 = t126 then ((Given.law10_awake.f).bind fun t129 => (some t129)) else (some false)) else (some false)) else (some false)) else (some false)) else (some false))) = some r := H
        have A16 := Aside0.mk A160
        clear A160
        replace H := Option.bind_eq_some_iff.mp H
        obtain ⟨t128, A170, H⟩ := H
        replace H : (if t127.toList = t128.toList then (if t119.toList = t121.toList then (if t120 = t122 then (if t123.toList = t125.toList then (if t124 = t126 then ((Given.law10_awake.f).bind fun t129 => (some t129)) else (some false)) else (some false)) else (some false)) else (some false)) else (some false)) = some r := H
        have A17 := Aside0.mk A170
        clear A170
        by_cases c18 : t127.toList = t128.toList
        · rw [if_pos c18] at H
          have c18b0 : (t127.toList == t128.toList) = true := beq_iff_eq.mpr c18
          have c18b1 : (t127.toList != t128.toList) = false := bne_eq_false_iff_eq.mpr c18
          clear c18
          by_cases c19 : t119.toList = t121.toList
          · rw [if_pos c19] at H
            have c19b0 : (t119.toList == t121.toList) = true := beq_iff_eq.mpr c19
            have c19b1 : (t119.toList != t121.toList) = false := bne_eq_false_iff_eq.mpr c19
            clear c19
            by_cases c20 : t120 = t122
            · rw [if_pos c20] at H
              have c20b0 : (t120 == t122) = true := beq_iff_eq.mpr c20
              have c20b1 : (t120 != t122) = false := bne_eq_false_iff_eq.mpr c20
              clear c20
              by_cases c21 : t123.toList = t125.toList
              · rw [if_pos c21] at H
                have c21b0 : (t123.toList == t125.toList) = true := beq_iff_eq.mpr c21
                have c21b1 : (t123.toList != t125.toList) = false := bne_eq_false_iff_eq.mpr c21
                clear c21
                by_cases c22 : t124 = t126
                · rw [if_pos c22] at H
                  have c22b0 : (t124 == t126) = true := beq_iff_eq.mpr c22
                  have c22b1 : (t124 != t126) = false := bne_eq_false_iff_eq.mpr c22
                  clear c22
                  replace H := Option.bind_eq_some_iff.mp H
                  obtain ⟨t129, A230, H⟩ := H
                  replace H : (some t129) = some r := H
                  have A23 := Aside0.mk A230
                  clear A230
                  obtain rfl := Option.some.inj H
                  go_wp2_with (first | ((with_reducible refine gate_callee (f := 22) rfl ?_); refine goesL_ (some 40) rfl rfl Try.func22 (by kernel_rfl) rfl #[.string a0, .string a1, .string a2] rfl (by (try simp only [List.map_toArray, List.map_cons, List.map_nil]); first | done | rfl | (simp only [List.length_drop, List.length_take]; rfl)) ?_; (with_reducible refine (Given.cbc_Seal.calls a0 a1 a2 t119 t120 _ A12.out).mono ?_); rintro e w24 ⟨rfl, hb⟩; refine ⟨_, rfl, ?_⟩; have n0_ := Aside0.mk (below_step (by repeat (first | (with_reducible first | exact HB.out | apply below_alloc | apply pw_below_drewN | apply below_drew1) | exact HB.out)) hb); clear HB; have HB := n0_; clear n0_; (try clear hb); (try clear hb2); (try clear hk); (try clear hi)) | ((with_reducible refine gate_callee (f := 23) rfl ?_); refine goesL_ (some 47) rfl rfl Try.func23 (by kernel_rfl) rfl #[.string a0, .string a1, .string a2] rfl (by (try simp only [List.map_toArray, List.map_cons, List.map_nil]); first | done | rfl | (simp only [List.length_drop, List.length_take]; rfl)) ?_; (with_reducible refine (hamperref10_Seal.calls kj4 a0 a1 a2 t121 t122 _ A13.out).mono ?_); rintro e w25 ⟨rfl, hb⟩; refine ⟨_, rfl, ?_⟩; have n0_ := Aside0.mk (below_step (by repeat (first | (with_reducible first | exact HB.out | apply below_alloc | apply pw_below_drewN | apply below_drew1) | exact HB.out)) hb); clear HB; have HB := n0_; clear n0_; (try clear hb); (try clear hb2); (try clear hk); (try clear hi)) | ((with_reducible refine gate_callee (f := 24) rfl ?_); refine goesL_ (some 54) rfl rfl Try.func24 (by kernel_rfl) rfl #[.string a0, .string a1, .string a3] rfl (by (try simp only [List.map_toArray, List.map_cons, List.map_nil]); first | done | rfl | (simp only [List.length_drop, List.length_take]; rfl)) ?_; (with_reducible refine (Given.cbc_Open.calls a0 a1 a3 t123 t124 _ A14.out).mono ?_); rintro e w26 ⟨rfl, hb⟩; refine ⟨_, rfl, ?_⟩; have n0_ := Aside0.mk (below_step (by repeat (first | (with_reducible first | exact HB.out | apply below_alloc | apply pw_below_drewN | apply below_drew1) | exact HB.out)) hb); clear HB; have HB := n0_; clear n0_; (try clear hb); (try clear hb2); (try clear hk); (try clear hi)) | ((with_reducible refine gate_callee (f := 25) rfl ?_); refine goesL_ (some 61) rfl rfl Try.func25 (by kernel_rfl) rfl #[.string a0, .string a1, .string a3] rfl (by (try simp only [List.map_toArray, List.map_cons, List.map_nil]); first | done | rfl | (simp only [List.length_drop, List.length_take]; rfl)) ?_; (with_reducible refine (hamperref10_Open.calls kj4 a0 a1 a3 t125 t126 _ A15.out).mono ?_); rintro e w27 ⟨rfl, hb⟩; refine ⟨_, rfl, ?_⟩; have n0_ := Aside0.mk (below_step (by repeat (first | (with_reducible first | exact HB.out | apply below_alloc | apply pw_below_drewN | apply below_drew1) | exact HB.out)) hb); clear HB; have HB := n0_; clear n0_; (try clear hb); (try clear hb2); (try clear hk); (try clear hi)) | ((with_reducible refine gate_callee (f := 26) rfl ?_); refine goesL_ (some 65) rfl rfl Try.func26 (by kernel_rfl) rfl #[.string a2] rfl (by (try simp only [List.map_toArray, List.map_cons, List.map_nil]); first | done | rfl | (simp only [List.length_drop, List.length_take]; rfl)) ?_; (with_reducible refine (Given.cbc_Frame.calls a2 t127 _ A16.out).mono ?_); rintro e w28 ⟨rfl, hb⟩; refine ⟨_, rfl, ?_⟩; have n0_ := Aside0.mk (below_step (by repeat (first | (with_reducible first | exact HB.out | apply below_alloc | apply pw_below_drewN | apply below_drew1) | exact HB.out)) hb); clear HB; have HB := n0_; clear n0_; (try clear hb); (try clear hb2); (try clear hk); (try clear hi)) | ((with_reducible refine gate_callee (f := 27) rfl ?_); refine goesL_ (some 67) rfl rfl Try.func27 (by kernel_rfl) rfl #[.string a2] rfl (by (try simp only [List.map_toArray, List.map_cons, List.map_nil]); first | done | rfl | (simp only [List.length_drop, List.length_take]; rfl)) ?_; (with_reducible refine (Given.ref10_Frame.calls a2 t128 _ A17.out).mono ?_); rintro e w29 ⟨rfl, hb⟩; refine ⟨_, rfl, ?_⟩; have n0_ := Aside0.mk (below_step (by repeat (first | (with_reducible first | exact HB.out | apply below_alloc | apply pw_below_drewN | apply below_drew1) | exact HB.out)) hb); clear HB; have HB := n0_; clear n0_; (try clear hb); (try clear hb2); (try clear hk); (try clear hi)) | (go_at_call 21; (with_reducible refine (Given.law10_awake.calls  t129 _ A23.out).mono ?_); rintro e w30 ⟨rfl, hb⟩; have n0_ := Aside0.mk (below_step (by repeat (first | (with_reducible first | exact HB.out | apply below_alloc | apply pw_below_drewN | apply below_drew1) | exact HB.out)) hb); clear HB; have HB := n0_; clear n0_; (try clear hb); (try clear hb2); (try clear hk); (try clear hi)))
                  go_ret
                  exact ⟨by first | rfl | (simp [errW_none, errW_some] <;> rfl) | (simp [*, errW_none, errW_some] <;> rfl), by repeat (first | (with_reducible first | exact HB.out | apply below_alloc | apply pw_below_drewN | apply below_drew1) | exact HB.out)⟩
                · rw [if_neg c22] at H
                  have c22b0 : (t124 == t126) = false := beq_eq_false_iff_ne.mpr c22
                  have c22b1 : (t124 != t126) = true := bne_iff_ne.mpr c22
                  exact absurd ((Option.some.inj H).trans hr_.out) Bool.false_ne_true
              · rw [if_neg c21] at H
                have c21b0 : (t123.toList == t125.toList) = false := beq_eq_false_iff_ne.mpr c21
                have c21b1 : (t123.toList != t125.toList) = true := bne_iff_ne.mpr c21
                exact absurd ((Option.some.inj H).trans hr_.out) Bool.false_ne_true
            · rw [if_neg c20] at H
              have c20b0 : (t120 == t122) = false := beq_eq_false_iff_ne.mpr c20
              have c20b1 : (t120 != t122) = true := bne_iff_ne.mpr c20
              exact absurd ((Option.some.inj H).trans hr_.out) Bool.false_ne_true
          · rw [if_neg c19] at H
            have c19b0 : (t119.toList == t121.toList) = false := beq_eq_false_iff_ne.mpr c19
            have c19b1 : (t119.toList != t121.toList) = true := bne_iff_ne.mpr c19
            exact absurd ((Option.some.inj H).trans hr_.out) Bool.false_ne_true
        · rw [if_neg c18] at H
          have c18b0 : (t127.toList == t128.toList) = false := beq_eq_false_iff_ne.mpr c18
          have c18b1 : (t127.toList != t128.toList) = true := bne_iff_ne.mpr c18
          exact absurd ((Option.some.inj H).trans hr_.out) Bool.false_ne_true

/-- THE ONE PURE STATEMENT of hamperlaw10_CbcTells: yours. -/
def hamperlaw10_CbcTells.Pure : Prop := ∀ (a0 : ByteArray) (a1 : ByteArray) (a2 : ByteArray) (a3 : ByteArray), a0.size ≤ 140737488351232 → a1.size ≤ 140737488351232 → a2.size ≤ 140737488351232 → a3.size ≤ 140737488351232 → ∃ k, hamperlaw10_CbcTells.f k a0 a1 a2 a3 = some true
theorem hamperlaw10_CbcTells.walk (P : hamperlaw10_CbcTells.Pure) (a0 : ByteArray) (a1 : ByteArray) (a2 : ByteArray) (a3 : ByteArray) (w : World) (w0 : a0.size ≤ 140737488351232) (w1 : a1.size ≤ 140737488351232) (w2 : a2.size ≤ 140737488351232) (w3 : a3.size ≤ 140737488351232) :
    Calls Try.prog 8 #[.string a0, .string a1, .string a2, .string a3] w fun e w' => e = .returned (.bool true) ∧ Below w.heap.size w w' := by
  obtain ⟨k, h⟩ := P a0 a1 a2 a3 w0 w1 w2 w3
  refine (hamperlaw10_CbcTells.calls k a0 a1 a2 a3 true w h ⟨rfl⟩).mono ?_
  rintro e w' ⟨rfl, hd⟩
  exact ⟨rfl, hd⟩

end Go.Proofs.Ytfbcgpgpfpnpnaa.PCbcTells
