/- The machine side of a law: printed by a program (wip/gprint.py over the kit's print), with the contracts of some functions proved by hand. Conditions: as each theorem names them. -/
import Derived.Test.YtbafbpfpnfnikaaPDeriveNamesx0
namespace Go.Proofs.Ytbafbpfpnfnikaa.PDeriveNames
open Go.RowKit Go.Proofs.YtbafbpfpnfnikaaW.PrintWords Go.Proofs.YtbafbpfpnfnikaaW.PrintLast Go.Proofs.YtbafbpfpnfnikaaW.PrintMore
attribute [local go_sem] max2_int min2_int max_two min_two max_three min_three max_four min_four   -- for this text's walks alone
set_option linter.unusedVariables false
set_option linter.unusedSimpArgs false

-- by hand: function 20 (sha_Hmac)

-- by hand: function 28 (derive_Stretch)

/-! ### derive_Key: function 26 -/
def derive_Key.f (a0 : ByteArray) (a1 : ByteArray) (a2 : Int) : Option (ByteArray × ByteArray × Int) := (Given.derive_Stretch.f a0 a1 a2 1).bind fun bt101 => (if bt101.2 = 0 then ((Given.derive_Stretch.f a0 a1 a2 2).bind fun bt103 => (if 0 ≤ 8 then (if 8 ≤ (bt103.1.size : Int) then (some (bt101.1, bt103.1.extract 0 8, bt103.2)) else (none)) else (none))) else (some ((⟨#[]⟩ : ByteArray), (⟨#[]⟩ : ByteArray), bt101.2)))
set_option maxHeartbeats 8000000 in
set_option maxRecDepth 100000 in
theorem derive_Key.calls (a0 : ByteArray) (a1 : ByteArray) (a2 : Int) (r1 : ByteArray) (r2 : ByteArray) (r3 : Int) (w : World) (h : derive_Key.f a0 a1 a2 = some (r1, r2, r3)) :
    Calls Try.prog 26 #[.string a0, .string a1, .int .i64 a2] w fun e w' => e = .returned (.tuple #[.string r1, .string r2, .int .i64 r3]) ∧ Below w.heap.size w w' := by
  have HB := Aside0.mk (Below.refl w.heap.size w)
  have H : ((Given.derive_Stretch.f a0 a1 a2 1).bind fun bt101 => (if bt101.2 = 0 then ((Given.derive_Stretch.f a0 a1 a2 2).bind fun bt103 => (if 0 ≤ 8 then (if 8 ≤ (bt103.1.size : Int) then (some (bt101.1, bt103.1.extract 0 8, bt103.2)) else (none)) else (none))) else (some ((⟨#[]⟩ : ByteArray), (⟨#[]⟩ : ByteArray), bt101.2)))) = some (r1, r2, r3) := h
  clear h
  replace H := Option.bind_eq_some_iff.mp H
  obtain ⟨⟨t101, t102⟩, A40, H⟩ := H
  replace H : (if t102 = 0 then ((Given.derive_Stretch.f a0 a1 a2 2).bind fun bt103 => (if 0 ≤ 8 then (if 8 ≤ (bt103.1.size : Int) then (some (t101, bt103.1.extract 0 8, bt103.2)) else (none)) else (none))) else (some ((⟨#[]⟩ : ByteArray), (⟨#[]⟩ : ByteArray), t102))) = some (r1, r2, r3) := H
  have A4 := Aside0.mk A40
  clear A40
  by_cases c5 : t102 = 0
  · rw [if_pos c5] at H
    have c5b0 : (t102 == 0) = true := beq_iff_eq.mpr c5
    have c5b1 : (t102 != 0) = false := bne_eq_false_iff_eq.mpr c5
    clear c5
    replace H := Option.bind_eq_some_iff.mp H
    obtain ⟨⟨t103, t104⟩, A60, H⟩ := H
    replace H : (if 0 ≤ 8 then (if 8 ≤ (t103.size : Int) then (some (t101, t103.extract 0 8, t104)) else (none)) else (none)) = some (r1, r2, r3) := H
    have A6 := Aside0.mk A60
    clear A60
    by_cases c7 : 0 ≤ 8
    · rw [if_pos c7] at H
      have c7b0 := eq_true c7
      have c7b1 : decide (0 ≤ 8) = true := decide_eq_true c7
      clear c7
      by_cases c8 : 8 ≤ (t103.size : Int)
      · rw [if_pos c8] at H
        have c8b0 := eq_true c8
        have c8b1 : decide (8 ≤ (t103.size : Int)) = true := decide_eq_true c8
        clear c8
        simp only [Option.some.injEq, Prod.mk.injEq] at H
        obtain ⟨rfl, rfl, rfl⟩ := H
        go_enter Try.func26, Try.ntmps26
        go_wp2_with (first | (go_at_call 28; (with_reducible refine (Given.derive_Stretch.calls a0 a1 a2 1 t101 t102 _ A4.out).mono ?_); rintro e w9 ⟨rfl, hb⟩; have n0_ := Aside0.mk (below_step (by repeat (first | (with_reducible first | exact HB.out | apply below_alloc | apply pw_below_drewN | apply below_drew1) | exact HB.out)) hb); clear HB; have HB := n0_; clear n0_; (try clear hb); (try clear hb2); (try clear hk); (try clear hi)) | (go_at_call 28; (with_reducible refine (Given.derive_Stretch.calls a0 a1 a2 2 t103 t104 _ A6.out).mono ?_); rintro e w10 ⟨rfl, hb⟩; have n0_ := Aside0.mk (below_step (by repeat (first | (with_reducible first | exact HB.out | apply below_alloc | apply pw_below_drewN | apply below_drew1) | exact HB.out)) hb); clear HB; have HB := n0_; clear n0_; (try clear hb); (try clear hb2); (try clear hk); (try clear hi)))
        repeat (go_quiet (first | (go_at_call 28; (with_reducible refine (Given.derive_Stretch.calls a0 a1 a2 1 t101 t102 _ A4.out).mono ?_); rintro e w9 ⟨rfl, hb⟩; have n0_ := Aside0.mk (below_step (by repeat (first | (with_reducible first | exact HB.out | apply below_alloc | apply pw_below_drewN | apply below_drew1) | exact HB.out)) hb); clear HB; have HB := n0_; clear n0_; (try clear hb); (try clear hb2); (try clear hk); (try clear hi)) | (go_at_call 28; (with_reducible refine (Given.derive_Stretch.calls a0 a1 a2 2 t103 t104 _ A6.out).mono ?_); rintro e w10 ⟨rfl, hb⟩; have n0_ := Aside0.mk (below_step (by repeat (first | (with_reducible first | exact HB.out | apply below_alloc | apply pw_below_drewN | apply below_drew1) | exact HB.out)) hb); clear HB; have HB := n0_; clear n0_; (try clear hb); (try clear hb2); (try clear hk); (try clear hi))); try go_wp2_with (first | (go_at_call 28; (with_reducible refine (Given.derive_Stretch.calls a0 a1 a2 1 t101 t102 _ A4.out).mono ?_); rintro e w9 ⟨rfl, hb⟩; have n0_ := Aside0.mk (below_step (by repeat (first | (with_reducible first | exact HB.out | apply below_alloc | apply pw_below_drewN | apply below_drew1) | exact HB.out)) hb); clear HB; have HB := n0_; clear n0_; (try clear hb); (try clear hb2); (try clear hk); (try clear hi)) | (go_at_call 28; (with_reducible refine (Given.derive_Stretch.calls a0 a1 a2 2 t103 t104 _ A6.out).mono ?_); rintro e w10 ⟨rfl, hb⟩; have n0_ := Aside0.mk (below_step (by repeat (first | (with_reducible first | exact HB.out | apply below_alloc | apply pw_below_drewN | apply below_drew1) | exact HB.out)) hb); clear HB; have HB := n0_; clear n0_; (try clear hb); (try clear hb2); (try clear hk); (try clear hi))))
        go_ret3
        exact ⟨by first | rfl | (simp [errW_none, errW_some] <;> rfl) | (simp [*, errW_none, errW_some] <;> rfl), by repeat (first | (with_reducible first | exact HB.out | apply below_alloc | apply pw_below_drewN | apply below_drew1) | exact HB.out)⟩
      · rw [if_neg c8] at H
        exact absurd H (by simp)
    · rw [if_neg c7] at H
      exact absurd H (by simp)
  · rw [if_neg c5] at H
    have c5b0 : (t102 == 0) = false := beq_eq_false_iff_ne.mpr c5
    have c5b1 : (t102 != 0) = true := bne_iff_ne.mpr c5
    simp only [Option.some.injEq, Prod.mk.injEq] at H
    obtain ⟨rfl, rfl, rfl⟩ := H
    go_enter Try.func26, Try.ntmps26
    go_wp2_with (first | (go_at_call 28; (with_reducible refine (Given.derive_Stretch.calls a0 a1 a2 1 t101 t102 _ A4.out).mono ?_); rintro e w11 ⟨rfl, hb⟩; have n0_ := Aside0.mk (below_step (by repeat (first | (with_reducible first | exact HB.out | apply below_alloc | apply pw_below_drewN | apply below_drew1) | exact HB.out)) hb); clear HB; have HB := n0_; clear n0_; (try clear hb); (try clear hb2); (try clear hk); (try clear hi)))
    repeat (go_quiet (first | (go_at_call 28; (with_reducible refine (Given.derive_Stretch.calls a0 a1 a2 1 t101 t102 _ A4.out).mono ?_); rintro e w11 ⟨rfl, hb⟩; have n0_ := Aside0.mk (below_step (by repeat (first | (with_reducible first | exact HB.out | apply below_alloc | apply pw_below_drewN | apply below_drew1) | exact HB.out)) hb); clear HB; have HB := n0_; clear n0_; (try clear hb); (try clear hb2); (try clear hk); (try clear hi))); try go_wp2_with (first | (go_at_call 28; (with_reducible refine (Given.derive_Stretch.calls a0 a1 a2 1 t101 t102 _ A4.out).mono ?_); rintro e w11 ⟨rfl, hb⟩; have n0_ := Aside0.mk (below_step (by repeat (first | (with_reducible first | exact HB.out | apply below_alloc | apply pw_below_drewN | apply below_drew1) | exact HB.out)) hb); clear HB; have HB := n0_; clear n0_; (try clear hb); (try clear hb2); (try clear hk); (try clear hi))))
    go_ret3
    exact ⟨by first | rfl | (simp [errW_none, errW_some] <;> rfl) | (simp [*, errW_none, errW_some] <;> rfl), by repeat (first | (with_reducible first | exact HB.out | apply below_alloc | apply pw_below_drewN | apply below_drew1) | exact HB.out)⟩

/-! ### hamperlaw08_awake: function 25 -/
def hamperlaw08_awake.f  : Option (Bool) := if 1 ≤ 16 then ((derive_Key.f (⟨#[112]⟩ : ByteArray) ((⟨#[115, 97, 108, 116, 101, 100, 32, 98, 121, 32, 116, 104, 101, 115, 101, 32]⟩ : ByteArray).extract 1 (⟨#[115, 97, 108, 116, 101, 100, 32, 98, 121, 32, 116, 104, 101, 115, 101, 32]⟩ : ByteArray).size) 1).bind fun bt105 => ((derive_Key.f (⟨#[112]⟩ : ByteArray) (⟨#[115, 97, 108, 116, 101, 100, 32, 98, 121, 32, 116, 104, 101, 115, 101, 32]⟩ : ByteArray) 0).bind fun bt108 => ((derive_Key.f (⟨#[112]⟩ : ByteArray) (⟨#[115, 97, 108, 116, 101, 100, 32, 98, 121, 32, 116, 104, 101, 115, 101, 32]⟩ : ByteArray) 1).bind fun bt111 => (if bt105.2.2 = 1 then (if bt108.2.2 = 1 then (if bt111.2.2 = 0 then (if 16 + 4 ≤ 9223372036854775807 then ((Given.sha_Hmac.f (⟨#[112]⟩ : ByteArray) ((⟨#[115, 97, 108, 116, 101, 100, 32, 98, 121, 32, 116, 104, 101, 115, 101, 32]⟩ : ByteArray) ++ (⟨#[0, 0, 0, 1]⟩ : ByteArray))).bind fun t114 => (if bt111.1.toList = t114.toList then ((Given.sha_Hmac.f (⟨#[112]⟩ : ByteArray) ((⟨#[115, 97, 108, 116, 101, 100, 32, 98, 121, 32, 116, 104, 101, 115, 101, 32]⟩ : ByteArray) ++ (⟨#[0, 0, 0, 2]⟩ : ByteArray))).bind fun t115 => (if 0 ≤ 8 then (if 8 ≤ (t115.size : Int) then (some (bt111.2.1.toList == (t115.extract 0 8).toList)) else (none)) else (none))) else (some false))) else (none)) else (some false)) else (some false)) else (some false))))) else (none)
set_option maxHeartbeats 8000000 in
set_option maxRecDepth 100000 in
theorem hamperlaw08_awake.calls  (r : Bool) (w : World) (h : hamperlaw08_awake.f  = some r) :
    Calls Try.prog 25 #[] w fun e w' => e = .returned (.bool r) ∧ Below w.heap.size w w' := by
  have HB := Aside0.mk (Below.refl w.heap.size w)
  have H : (if 1 ≤ 16 then ((derive_Key.f (⟨#[112]⟩ : ByteArray) ((⟨#[115, 97, 108, 116, 101, 100, 32, 98, 121, 32, 116, 104, 101, 115, 101, 32]⟩ : ByteArray).extract 1 (⟨#[115, 97, 108, 116, 101, 100, 32, 98, 121, 32, 116, 104, 101, 115, 101, 32]⟩ : ByteArray).size) 1).bind fun bt105 => ((derive_Key.f (⟨#[112]⟩ : ByteArray) (⟨#[115, 97, 108, 116, 101, 100, 32, 98, 121, 32, 116, 104, 101, 115, 101, 32]⟩ : ByteArray) 0).bind fun bt108 => ((derive_Key.f (⟨#[112]⟩ : ByteArray) (⟨#[115, 97, 108, 116, 101, 100, 32, 98, 121, 32, 116, 104, 101, 115, 101, 32]⟩ : ByteArray) 1).bind fun bt111 => (if bt105.2.2 = 1 then (if bt108.2.2 = 1 then (if bt111.2.2 = 0 then (if 16 + 4 ≤ 9223372036854775807 then ((Given.sha_Hmac.f (⟨#[112]⟩ : ByteArray) ((⟨#[115, 97, 108, 116, 101, 100, 32, 98, 121, 32, 116, 104, 101, 115, 101, 32]⟩ : ByteArray) ++ (⟨#[0, 0, 0, 1]⟩ : ByteArray))).bind fun t114 => (if bt111.1.toList = t114.toList then ((Given.sha_Hmac.f (⟨#[112]⟩ : ByteArray) ((⟨#[115, 97, 108, 116, 101, 100, 32, 98, 121, 32, 116, 104, 101, 115, 101, 32]⟩ : ByteArray) ++ (⟨#[0, 0, 0, 2]⟩ : ByteArray))).bind fun t115 => (if 0 ≤ 8 then (if 8 ≤ (t115.size : Int) then (some (bt111.2.1.toList == (t115.extract 0 8).toList)) else (none)) else (none))) else (some false))) else (none)) else (some false)) else (some false)) else (some false))))) else (none)) = some r := h
  clear h
  by_cases c1 : 1 ≤ 16
  · rw [if_pos c1] at H
    have c1b0 := eq_true c1
    have c1b1 : decide (1 ≤ 16) = true := decide_eq_true c1
    clear c1
    replace H := Option.bind_eq_some_iff.mp H
    obtain ⟨⟨t105, t106, t107⟩, A20, H⟩ := H
    replace H : ((derive_Key.f (⟨#[112]⟩ : ByteArray) (⟨#[115, 97, 108, 116, 101, 100, 32, 98, 121, 32, 116, 104, 101, 115, 101, 32]⟩ : ByteArray) 0).bind fun bt108 => ((derive_Key.f (⟨#[112]⟩ : ByteArray) (⟨#[115, 97, 108, 116, 101, 100, 32, 98, 121, 32, 116, 104, 101, 115, 101, 32]⟩ : ByteArray) 1).bind fun bt111 => (if t107 = 1 then (if bt108.2.2 = 1 then (if bt111.2.2 = 0 then (if 16 + 4 ≤ 9223372036854775807 then ((Given.sha_Hmac.f (⟨#[112]⟩ : ByteArray) ((⟨#[115, 97, 108, 116, 101, 100, 32, 98, 121, 32, 116, 104, 101, 115, 101, 32]⟩ : ByteArray) ++ (⟨#[0, 0, 0, 1]⟩ : ByteArray))).bind fun t114 => (if bt111.1.toList = t114.toList then ((Given.sha_Hmac.f (⟨#[112]⟩ : ByteArray) ((⟨#[115, 97, 108, 116, 101, 100, 32, 98, 121, 32, 116, 104, 101, 115, 101, 32]⟩ : ByteArray) ++ (⟨#[0, 0, 0, 2]⟩ : ByteArray))).bind fun t115 => (if 0 ≤ 8 then (if 8 ≤ (t115.size : Int) then (some (bt111.2.1.toList == (t115.extract 0 8).toList)) else (none)) else (none))) else (some false))) else (none)) else (some false)) else (some false)) else (some false)))) = some r := H
    have A2 := Aside0.mk A20
    clear A20
    replace H := Option.bind_eq_some_iff.mp H
    obtain ⟨⟨t108, t109, t110⟩, A30, H⟩ := H
    replace H : ((derive_Key.f (⟨#[112]⟩ : ByteArray) (⟨#[115, 97, 108, 116, 101, 100, 32, 98, 121, 32, 116, 104, 101, 115, 101, 32]⟩ : ByteArray) 1).bind fun bt111 => (if t107 = 1 then (if t110 = 1 then (if bt111.2.2 = 0 then (if 16 + 4 ≤ 9223372036854775807 then ((Given.sha_Hmac.f (⟨#[112]⟩ : ByteArray) ((⟨#[115, 97, 108, 116, 101, 100, 32, 98, 121, 32, 116, 104, 101, 115, 101, 32]⟩ : ByteArray) ++ (⟨#[0, 0, 0, 1]⟩ : ByteArray))).bind fun t114 => (if bt111.1.toList = t114.toList then ((Given.sha_Hmac.f (⟨#[112]⟩ : ByteArray) ((⟨#[115, 97, 108, 116, 101, 100, 32, 98, 121, 32, 116, 104, 101, 115, 101, 32]⟩ : ByteArray) ++ (⟨#[0, 0, 0, 2]⟩ : ByteArray))).bind fun t115 => (if 0 ≤ 8 then (if 8 ≤ (t115.size : Int) then (some (bt111.2.1.toList == (t115.extract 0 8).toList)) else (none)) else (none))) else (some false))) else (none)) else (some false)) else (some false)) else (some false))) = some r := H
    have A3 := Aside0.mk A30
    clear A30
    replace H := Option.bind_eq_some_iff.mp H
    obtain ⟨⟨t111, t112, t113⟩, A40, H⟩ := H
    replace H : (if t107 = 1 then (if t110 = 1 then (if t113 = 0 then (if 16 + 4 ≤ 9223372036854775807 then ((Given.sha_Hmac.f (⟨#[112]⟩ : ByteArray) ((⟨#[115, 97, 108, 116, 101, 100, 32, 98, 121, 32, 116, 104, 101, 115, 101, 32]⟩ : ByteArray) ++ (⟨#[0, 0, 0, 1]⟩ : ByteArray))).bind fun t114 => (if t111.toList = t114.toList then ((Given.sha_Hmac.f (⟨#[112]⟩ : ByteArray) ((⟨#[115, 97, 108, 116, 101, 100, 32, 98, 121, 32, 116, 104, 101, 115, 101, 32]⟩ : ByteArray) ++ (⟨#[0, 0, 0, 2]⟩ : ByteArray))).bind fun t115 => (if 0 ≤ 8 then (if 8 ≤ (t115.size : Int) then (some (t112.toList == (t115.extract 0 8).toList)) else (none)) else (none))) else (some false))) else (none)) else (some false)) else (some false)) else (some false)) = some r := H
    have A4 := Aside0.mk A40
    clear A40
    by_cases c5 : t107 = 1
    · rw [if_pos c5] at H
      have c5b0 : (t107 == 1) = true := beq_iff_eq.mpr c5
      have c5b1 : (t107 != 1) = false := bne_eq_false_iff_eq.mpr c5
      clear c5
      by_cases c6 : t110 = 1
      · rw [if_pos c6] at H
        have c6b0 : (t110 == 1) = true := beq_iff_eq.mpr c6
        have c6b1 : (t110 != 1) = false := bne_eq_false_iff_eq.mpr c6
        clear c6
        by_cases c7 : t113 = 0
        · rw [if_pos c7] at H
          have c7b0 : (t113 == 0) = true := beq_iff_eq.mpr c7
          have c7b1 : (t113 != 0) = false := bne_eq_false_iff_eq.mpr c7
          clear c7
          by_cases c8 : 16 + 4 ≤ 9223372036854775807
          · rw [if_pos c8] at H
            have c8b0 := eq_true c8
            have c8b1 : decide (16 + 4 ≤ 9223372036854775807) = true := decide_eq_true c8
            try have c8b2 : (9223372036854775807 < 16 + 4) = False := eq_false (Nat.not_lt.2 c8)
            replace H := Option.bind_eq_some_iff.mp H
            obtain ⟨t114, A90, H⟩ := H
            replace H : (if t111.toList = t114.toList then ((Given.sha_Hmac.f (⟨#[112]⟩ : ByteArray) ((⟨#[115, 97, 108, 116, 101, 100, 32, 98, 121, 32, 116, 104, 101, 115, 101, 32]⟩ : ByteArray) ++ (⟨#[0, 0, 0, 2]⟩ : ByteArray))).bind fun t115 => (if 0 ≤ 8 then (if 8 ≤ (t115.size : Int) then (some (t112.toList == (t115.extract 0 8).toList)) else (none)) else (none))) else (some false)) = some r := H
            have A9 := Aside0.mk A90
            clear A90
            by_cases c10 : t111.toList = t114.toList
            · rw [if_pos c10] at H
              have c10b0 : (t111.toList == t114.toList) = true := beq_iff_eq.mpr c10
              have c10b1 : (t111.toList != t114.toList) = false := bne_eq_false_iff_eq.mpr c10
              clear c10
              replace H := Option.bind_eq_some_iff.mp H
              obtain ⟨t115, A110, H⟩ := H
              replace H : (if 0 ≤ 8 then (if 8 ≤ (t115.size : Int) then (some (t112.toList == (t115.extract 0 8).toList)) else (none)) else (none)) = some r := H
              have A11 := Aside0.mk A110
              clear A110
              by_cases c12 : 0 ≤ 8
              · rw [if_pos c12] at H
                have c12b0 := eq_true c12
                have c12b1 : decide (0 ≤ 8) = true := decide_eq_true c12
                clear c12
                by_cases c13 : 8 ≤ (t115.size : Int)
                · rw [if_pos c13] at H
                  have c13b0 := eq_true c13
                  have c13b1 : decide (8 ≤ (t115.size : Int)) = true := decide_eq_true c13
                  clear c13
                  obtain rfl := Option.some.inj H
                  go_enter Try.func25, Try.ntmps25
                  go_wp2_with (first | ((with_reducible refine gate_callee (f := 26) rfl ?_); refine goesL_ (some 14) rfl rfl Try.func26 (by kernel_rfl) rfl #[.string (⟨#[112]⟩ : ByteArray), .string ((⟨#[115, 97, 108, 116, 101, 100, 32, 98, 121, 32, 116, 104, 101, 115, 101, 32]⟩ : ByteArray).extract 1 (⟨#[115, 97, 108, 116, 101, 100, 32, 98, 121, 32, 116, 104, 101, 115, 101, 32]⟩ : ByteArray).size), .int .i64 1] rfl (by (try simp only [List.map_toArray, List.map_cons, List.map_nil]); first | done | rfl | (simp only [List.length_drop, List.length_take]; rfl)) ?_; (with_reducible refine (derive_Key.calls (⟨#[112]⟩ : ByteArray) ((⟨#[115, 97, 108, 116, 101, 100, 32, 98, 121, 32, 116, 104, 101, 115, 101, 32]⟩ : ByteArray).extract 1 (⟨#[115, 97, 108, 116, 101, 100, 32, 98, 121, 32, 116, 104, 101, 115, 101, 32]⟩ : ByteArray).size) 1 t105 t106 t107 _ A2.out).mono ?_); rintro e w14 ⟨rfl, hb⟩; refine ⟨_, rfl, ?_⟩; have n0_ := Aside0.mk (below_step (by repeat (first | (with_reducible first | exact HB.out | apply below_alloc | apply pw_below_drewN | apply below_drew1) | exact HB.out)) hb); clear HB; have HB := n0_; clear n0_; (try clear hb); (try clear hb2); (try clear hk); (try clear hi)) | ((with_reducible refine gate_callee (f := 26) rfl ?_); refine goesL_ (some 20) rfl rfl Try.func26 (by kernel_rfl) rfl #[.string (⟨#[112]⟩ : ByteArray), .string (⟨#[115, 97, 108, 116, 101, 100, 32, 98, 121, 32, 116, 104, 101, 115, 101, 32]⟩ : ByteArray), .int .i64 0] rfl (by (try simp only [List.map_toArray, List.map_cons, List.map_nil]); first | done | rfl | (simp only [List.length_drop, List.length_take]; rfl)) ?_; (with_reducible refine (derive_Key.calls (⟨#[112]⟩ : ByteArray) (⟨#[115, 97, 108, 116, 101, 100, 32, 98, 121, 32, 116, 104, 101, 115, 101, 32]⟩ : ByteArray) 0 t108 t109 t110 _ A3.out).mono ?_); rintro e w15 ⟨rfl, hb⟩; refine ⟨_, rfl, ?_⟩; have n0_ := Aside0.mk (below_step (by repeat (first | (with_reducible first | exact HB.out | apply below_alloc | apply pw_below_drewN | apply below_drew1) | exact HB.out)) hb); clear HB; have HB := n0_; clear n0_; (try clear hb); (try clear hb2); (try clear hk); (try clear hi)) | ((with_reducible refine gate_callee (f := 26) rfl ?_); refine goesL_ (some 26) rfl rfl Try.func26 (by kernel_rfl) rfl #[.string (⟨#[112]⟩ : ByteArray), .string (⟨#[115, 97, 108, 116, 101, 100, 32, 98, 121, 32, 116, 104, 101, 115, 101, 32]⟩ : ByteArray), .int .i64 1] rfl (by (try simp only [List.map_toArray, List.map_cons, List.map_nil]); first | done | rfl | (simp only [List.length_drop, List.length_take]; rfl)) ?_; (with_reducible refine (derive_Key.calls (⟨#[112]⟩ : ByteArray) (⟨#[115, 97, 108, 116, 101, 100, 32, 98, 121, 32, 116, 104, 101, 115, 101, 32]⟩ : ByteArray) 1 t111 t112 t113 _ A4.out).mono ?_); rintro e w16 ⟨rfl, hb⟩; refine ⟨_, rfl, ?_⟩; have n0_ := Aside0.mk (below_step (by repeat (first | (with_reducible first | exact HB.out | apply below_alloc | apply pw_below_drewN | apply below_drew1) | exact HB.out)) hb); clear HB; have HB := n0_; clear n0_; (try clear hb); (try clear hb2); (try clear hk); (try clear hi)) | (go_at_call 20; (with_reducible refine (Given.sha_Hmac.calls (⟨#[112]⟩ : ByteArray) ((⟨#[115, 97, 108, 116, 101, 100, 32, 98, 121, 32, 116, 104, 101, 115, 101, 32]⟩ : ByteArray) ++ (⟨#[0, 0, 0, 1]⟩ : ByteArray)) t114 _ A9.out).mono ?_); rintro e w17 ⟨rfl, hb⟩; have n0_ := Aside0.mk (below_step (by repeat (first | (with_reducible first | exact HB.out | apply below_alloc | apply pw_below_drewN | apply below_drew1) | exact HB.out)) hb); clear HB; have HB := n0_; clear n0_; (try clear hb); (try clear hb2); (try clear hk); (try clear hi)) | (go_at_call 20; (with_reducible refine (Given.sha_Hmac.calls (⟨#[112]⟩ : ByteArray) ((⟨#[115, 97, 108, 116, 101, 100, 32, 98, 121, 32, 116, 104, 101, 115, 101, 32]⟩ : ByteArray) ++ (⟨#[0, 0, 0, 2]⟩ : ByteArray)) t115 _ A11.out).mono ?_); rintro e w18 ⟨rfl, hb⟩; have n0_ := Aside0.mk (below_step (by repeat (first | (with_reducible first | exact HB.out | apply below_alloc | apply pw_below_drewN | apply below_drew1) | exact HB.out)) hb); clear HB; have HB := n0_; clear n0_; (try clear hb); (try clear hb2); (try clear hk); (try clear hi)))
                  go_ret
                  exact ⟨by first | rfl | (simp [errW_none, errW_some] <;> rfl) | (simp [*, errW_none, errW_some] <;> rfl), by repeat (first | (with_reducible first | exact HB.out | apply below_alloc | apply pw_below_drewN | apply below_drew1) | exact HB.out)⟩
                · rw [if_neg c13] at H
                  exact absurd H (by simp)
              · rw [if_neg c12] at H
                exact absurd H (by simp)
            · rw [if_neg c10] at H
              have c10b0 : (t111.toList == t114.toList) = false := beq_eq_false_iff_ne.mpr c10
              have c10b1 : (t111.toList != t114.toList) = true := bne_iff_ne.mpr c10
              obtain rfl := Option.some.inj H
              go_enter Try.func25, Try.ntmps25
              go_wp2_with (first | ((with_reducible refine gate_callee (f := 26) rfl ?_); refine goesL_ (some 14) rfl rfl Try.func26 (by kernel_rfl) rfl #[.string (⟨#[112]⟩ : ByteArray), .string ((⟨#[115, 97, 108, 116, 101, 100, 32, 98, 121, 32, 116, 104, 101, 115, 101, 32]⟩ : ByteArray).extract 1 (⟨#[115, 97, 108, 116, 101, 100, 32, 98, 121, 32, 116, 104, 101, 115, 101, 32]⟩ : ByteArray).size), .int .i64 1] rfl (by (try simp only [List.map_toArray, List.map_cons, List.map_nil]); first | done | rfl | (simp only [List.length_drop, List.length_take]; rfl)) ?_; (with_reducible refine (derive_Key.calls (⟨#[112]⟩ : ByteArray) ((⟨#[115, 97, 108, 116, 101, 100, 32, 98, 121, 32, 116, 104, 101, 115, 101, 32]⟩ : ByteArray).extract 1 (⟨#[115, 97, 108, 116, 101, 100, 32, 98, 121, 32, 116, 104, 101, 115, 101, 32]⟩ : ByteArray).size) 1 t105 t106 t107 _ A2.out).mono ?_); rintro e w19 ⟨rfl, hb⟩; refine ⟨_, rfl, ?_⟩; have n0_ := Aside0.mk (below_step (by repeat (first | (with_reducible first | exact HB.out | apply below_alloc | apply pw_below_drewN | apply below_drew1) | exact HB.out)) hb); clear HB; have HB := n0_; clear n0_; (try clear hb); (try clear hb2); (try clear hk); (try clear hi)) | ((with_reducible refine gate_callee (f := 26) rfl ?_); refine goesL_ (some 20) rfl rfl Try.func26 (by kernel_rfl) rfl #[.string (⟨#[112]⟩ : ByteArray), .string (⟨#[115, 97, 108, 116, 101, 100, 32, 98, 121, 32, 116, 104, 101, 115, 101, 32]⟩ : ByteArray), .int .i64 0] rfl (by (try simp only [List.map_toArray, List.map_cons, List.map_nil]); first | done | rfl | (simp only [List.length_drop, List.length_take]; rfl)) ?_; (with_reducible refine (derive_Key.calls (⟨#[112]⟩ : ByteArray) (⟨#[115, 97, 108, 116, 101, 100, 32, 98, 121, 32, 116, 104, 101, 115, 101, 32]⟩ : ByteArray) 0 t108 t109 t110 _ A3.out).mono ?_); rintro e w20 ⟨rfl, hb⟩; refine ⟨_, rfl, ?_⟩; have n0_ := Aside0.mk (below_step (by repeat (first | (with_reducible first | exact HB.out | apply below_alloc | apply pw_below_drewN | apply below_drew1) | exact HB.out)) hb); clear HB; have HB := n0_; clear n0_; (try clear hb); (try clear hb2); (try clear hk); (try clear hi)) | ((with_reducible refine gate_callee (f := 26) rfl ?_); refine goesL_ (some 26) rfl rfl Try.func26 (by kernel_rfl) rfl #[.string (⟨#[112]⟩ : ByteArray), .string (⟨#[115, 97, 108, 116, 101, 100, 32, 98, 121, 32, 116, 104, 101, 115, 101, 32]⟩ : ByteArray), .int .i64 1] rfl (by (try simp only [List.map_toArray, List.map_cons, List.map_nil]); first | done | rfl | (simp only [List.length_drop, List.length_take]; rfl)) ?_; (with_reducible refine (derive_Key.calls (⟨#[112]⟩ : ByteArray) (⟨#[115, 97, 108, 116, 101, 100, 32, 98, 121, 32, 116, 104, 101, 115, 101, 32]⟩ : ByteArray) 1 t111 t112 t113 _ A4.out).mono ?_); rintro e w21 ⟨rfl, hb⟩; refine ⟨_, rfl, ?_⟩; have n0_ := Aside0.mk (below_step (by repeat (first | (with_reducible first | exact HB.out | apply below_alloc | apply pw_below_drewN | apply below_drew1) | exact HB.out)) hb); clear HB; have HB := n0_; clear n0_; (try clear hb); (try clear hb2); (try clear hk); (try clear hi)) | (go_at_call 20; (with_reducible refine (Given.sha_Hmac.calls (⟨#[112]⟩ : ByteArray) ((⟨#[115, 97, 108, 116, 101, 100, 32, 98, 121, 32, 116, 104, 101, 115, 101, 32]⟩ : ByteArray) ++ (⟨#[0, 0, 0, 1]⟩ : ByteArray)) t114 _ A9.out).mono ?_); rintro e w22 ⟨rfl, hb⟩; have n0_ := Aside0.mk (below_step (by repeat (first | (with_reducible first | exact HB.out | apply below_alloc | apply pw_below_drewN | apply below_drew1) | exact HB.out)) hb); clear HB; have HB := n0_; clear n0_; (try clear hb); (try clear hb2); (try clear hk); (try clear hi)))
              go_ret
              exact ⟨by first | rfl | (simp [errW_none, errW_some] <;> rfl) | (simp [*, errW_none, errW_some] <;> rfl), by repeat (first | (with_reducible first | exact HB.out | apply below_alloc | apply pw_below_drewN | apply below_drew1) | exact HB.out)⟩
          · rw [if_neg c8] at H
            exact absurd H (by simp)
        · rw [if_neg c7] at H
          have c7b0 : (t113 == 0) = false := beq_eq_false_iff_ne.mpr c7
          have c7b1 : (t113 != 0) = true := bne_iff_ne.mpr c7
          obtain rfl := Option.some.inj H
          go_enter Try.func25, Try.ntmps25
          go_wp2_with (first | ((with_reducible refine gate_callee (f := 26) rfl ?_); refine goesL_ (some 14) rfl rfl Try.func26 (by kernel_rfl) rfl #[.string (⟨#[112]⟩ : ByteArray), .string ((⟨#[115, 97, 108, 116, 101, 100, 32, 98, 121, 32, 116, 104, 101, 115, 101, 32]⟩ : ByteArray).extract 1 (⟨#[115, 97, 108, 116, 101, 100, 32, 98, 121, 32, 116, 104, 101, 115, 101, 32]⟩ : ByteArray).size), .int .i64 1] rfl (by (try simp only [List.map_toArray, List.map_cons, List.map_nil]); first | done | rfl | (simp only [List.length_drop, List.length_take]; rfl)) ?_; (with_reducible refine (derive_Key.calls (⟨#[112]⟩ : ByteArray) ((⟨#[115, 97, 108, 116, 101, 100, 32, 98, 121, 32, 116, 104, 101, 115, 101, 32]⟩ : ByteArray).extract 1 (⟨#[115, 97, 108, 116, 101, 100, 32, 98, 121, 32, 116, 104, 101, 115, 101, 32]⟩ : ByteArray).size) 1 t105 t106 t107 _ A2.out).mono ?_); rintro e w23 ⟨rfl, hb⟩; refine ⟨_, rfl, ?_⟩; have n0_ := Aside0.mk (below_step (by repeat (first | (with_reducible first | exact HB.out | apply below_alloc | apply pw_below_drewN | apply below_drew1) | exact HB.out)) hb); clear HB; have HB := n0_; clear n0_; (try clear hb); (try clear hb2); (try clear hk); (try clear hi)) | ((with_reducible refine gate_callee (f := 26) rfl ?_); refine goesL_ (some 20) rfl rfl Try.func26 (by kernel_rfl) rfl #[.string (⟨#[112]⟩ : ByteArray), .string (⟨#[115, 97, 108, 116, 101, 100, 32, 98, 121, 32, 116, 104, 101, 115, 101, 32]⟩ : ByteArray), .int .i64 0] rfl (by (try simp only [List.map_toArray, List.map_cons, List.map_nil]); first | done | rfl | (simp only [List.length_drop, List.length_take]; rfl)) ?_; (with_reducible refine (derive_Key.calls (⟨#[112]⟩ : ByteArray) (⟨#[115, 97, 108, 116, 101, 100, 32, 98, 121, 32, 116, 104, 101, 115, 101, 32]⟩ : ByteArray) 0 t108 t109 t110 _ A3.out).mono ?_); rintro e w24 ⟨rfl, hb⟩; refine ⟨_, rfl, ?_⟩; have n0_ := Aside0.mk (below_step (by repeat (first | (with_reducible first | exact HB.out | apply below_alloc | apply pw_below_drewN | apply below_drew1) | exact HB.out)) hb); clear HB; have HB := n0_; clear n0_; (try clear hb); (try clear hb2); (try clear hk); (try clear hi)) | ((with_reducible refine gate_callee (f := 26) rfl ?_); refine goesL_ (some 26) rfl rfl Try.func26 (by kernel_rfl) rfl #[.string (⟨#[112]⟩ : ByteArray), .string (⟨#[115, 97, 108, 116, 101, 100, 32, 98, 121, 32, 116, 104, 101, 115, 101, 32]⟩ : ByteArray), .int .i64 1] rfl (by (try simp only [List.map_toArray, List.map_cons, List.map_nil]); first | done | rfl | (simp only [List.length_drop, List.length_take]; rfl)) ?_; (with_reducible refine (derive_Key.calls (⟨#[112]⟩ : ByteArray) (⟨#[115, 97, 108, 116, 101, 100, 32, 98, 121, 32, 116, 104, 101, 115, 101, 32]⟩ : ByteArray) 1 t111 t112 t113 _ A4.out).mono ?_); rintro e w25 ⟨rfl, hb⟩; refine ⟨_, rfl, ?_⟩; have n0_ := Aside0.mk (below_step (by repeat (first | (with_reducible first | exact HB.out | apply below_alloc | apply pw_below_drewN | apply below_drew1) | exact HB.out)) hb); clear HB; have HB := n0_; clear n0_; (try clear hb); (try clear hb2); (try clear hk); (try clear hi)))
          go_ret
          exact ⟨by first | rfl | (simp [errW_none, errW_some] <;> rfl) | (simp [*, errW_none, errW_some] <;> rfl), by repeat (first | (with_reducible first | exact HB.out | apply below_alloc | apply pw_below_drewN | apply below_drew1) | exact HB.out)⟩
      · rw [if_neg c6] at H
        have c6b0 : (t110 == 1) = false := beq_eq_false_iff_ne.mpr c6
        have c6b1 : (t110 != 1) = true := bne_iff_ne.mpr c6
        obtain rfl := Option.some.inj H
        go_enter Try.func25, Try.ntmps25
        go_wp2_with (first | ((with_reducible refine gate_callee (f := 26) rfl ?_); refine goesL_ (some 14) rfl rfl Try.func26 (by kernel_rfl) rfl #[.string (⟨#[112]⟩ : ByteArray), .string ((⟨#[115, 97, 108, 116, 101, 100, 32, 98, 121, 32, 116, 104, 101, 115, 101, 32]⟩ : ByteArray).extract 1 (⟨#[115, 97, 108, 116, 101, 100, 32, 98, 121, 32, 116, 104, 101, 115, 101, 32]⟩ : ByteArray).size), .int .i64 1] rfl (by (try simp only [List.map_toArray, List.map_cons, List.map_nil]); first | done | rfl | (simp only [List.length_drop, List.length_take]; rfl)) ?_; (with_reducible refine (derive_Key.calls (⟨#[112]⟩ : ByteArray) ((⟨#[115, 97, 108, 116, 101, 100, 32, 98, 121, 32, 116, 104, 101, 115, 101, 32]⟩ : ByteArray).extract 1 (⟨#[115, 97, 108, 116, 101, 100, 32, 98, 121, 32, 116, 104, 101, 115, 101, 32]⟩ : ByteArray).size) 1 t105 t106 t107 _ A2.out).mono ?_); rintro e w26 ⟨rfl, hb⟩; refine ⟨_, rfl, ?_⟩; have n0_ := Aside0.mk (below_step (by repeat (first | (with_reducible first | exact HB.out | apply below_alloc | apply pw_below_drewN | apply below_drew1) | exact HB.out)) hb); clear HB; have HB := n0_; clear n0_; (try clear hb); (try clear hb2); (try clear hk); (try clear hi)) | ((with_reducible refine gate_callee (f := 26) rfl ?_); refine goesL_ (some 20) rfl rfl Try.func26 (by kernel_rfl) rfl #[.string (⟨#[112]⟩ : ByteArray), .string (⟨#[115, 97, 108, 116, 101, 100, 32, 98, 121, 32, 116, 104, 101, 115, 101, 32]⟩ : ByteArray), .int .i64 0] rfl (by (try simp only [List.map_toArray, List.map_cons, List.map_nil]); first | done | rfl | (simp only [List.length_drop, List.length_take]; rfl)) ?_; (with_reducible refine (derive_Key.calls (⟨#[112]⟩ : ByteArray) (⟨#[115, 97, 108, 116, 101, 100, 32, 98, 121, 32, 116, 104, 101, 115, 101, 32]⟩ : ByteArray) 0 t108 t109 t110 _ A3.out).mono ?_); rintro e w27 ⟨rfl, hb⟩; refine ⟨_, rfl, ?_⟩; have n0_ := Aside0.mk (below_step (by repeat (first | (with_reducible first | exact HB.out | apply below_alloc | apply pw_below_drewN | apply below_drew1) | exact HB.out)) hb); clear HB; have HB := n0_; clear n0_; (try clear hb); (try clear hb2); (try clear hk); (try clear hi)) | ((with_reducible refine gate_callee (f := 26) rfl ?_); refine goesL_ (some 26) rfl rfl Try.func26 (by kernel_rfl) rfl #[.string (⟨#[112]⟩ : ByteArray), .string (⟨#[115, 97, 108, 116, 101, 100, 32, 98, 121, 32, 116, 104, 101, 115, 101, 32]⟩ : ByteArray), .int .i64 1] rfl (by (try simp only [List.map_toArray, List.map_cons, List.map_nil]); first | done | rfl | (simp only [List.length_drop, List.length_take]; rfl)) ?_; (with_reducible refine (derive_Key.calls (⟨#[112]⟩ : ByteArray) (⟨#[115, 97, 108, 116, 101, 100, 32, 98, 121, 32, 116, 104, 101, 115, 101, 32]⟩ : ByteArray) 1 t111 t112 t113 _ A4.out).mono ?_); rintro e w28 ⟨rfl, hb⟩; refine ⟨_, rfl, ?_⟩; have n0_ := Aside0.mk (below_step (by repeat (first | (with_reducible first | exact HB.out | apply below_alloc | apply pw_below_drewN | apply below_drew1) | exact HB.out)) hb); clear HB; have HB := n0_; clear n0_; (try clear hb); (try clear hb2); (try clear hk); (try clear hi)))
        go_ret
        exact ⟨by first | rfl | (simp [errW_none, errW_some] <;> rfl) | (simp [*, errW_none, errW_some] <;> rfl), by repeat (first | (with_reducible first | exact HB.out | apply below_alloc | apply pw_below_drewN | apply below_drew1) | exact HB.out)⟩
    · rw [if_neg c5] at H
      have c5b0 : (t107 == 1) = false := beq_eq_false_iff_ne.mpr c5
      have c5b1 : (t107 != 1) = true := bne_iff_ne.mpr c5
      obtain rfl := Option.some.inj H
      go_enter Try.func25, Try.ntmps25
      go_wp2_with (first | ((with_reducible refine gate_callee (f := 26) rfl ?_); refine goesL_ (some 14) rfl rfl Try.func26 (by kernel_rfl) rfl #[.string (⟨#[112]⟩ : ByteArray), .string ((⟨#[115, 97, 108, 116, 101, 100, 32, 98, 121, 32, 116, 104, 101, 115, 101, 32]⟩ : ByteArray).extract 1 (⟨#[115, 97, 108, 116, 101, 100, 32, 98, 121, 32, 116, 104, 101, 115, 101, 32]⟩ : ByteArray).size), .int .i64 1] rfl (by (try simp only [List.map_toArray, List.map_cons, List.map_nil]); first | done | rfl | (simp only [List.length_drop, List.length_take]; rfl)) ?_; (with_reducible refine (derive_Key.calls (⟨#[112]⟩ : ByteArray) ((⟨#[115, 97, 108, 116, 101, 100, 32, 98, 121, 32, 116, 104, 101, 115, 101, 32]⟩ : ByteArray).extract 1 (⟨#[115, 97, 108, 116, 101, 100, 32, 98, 121, 32, 116, 104, 101, 115, 101, 32]⟩ : ByteArray).size) 1 t105 t106 t107 _ A2.out).mono ?_); rintro e w29 ⟨rfl, hb⟩; refine ⟨_, rfl, ?_⟩; have n0_ := Aside0.mk (below_step (by repeat (first | (with_reducible first | exact HB.out | apply below_alloc | apply pw_below_drewN | apply below_drew1) | exact HB.out)) hb); clear HB; have HB := n0_; clear n0_; (try clear hb); (try clear hb2); (try clear hk); (try clear hi)) | ((with_reducible refine gate_callee (f := 26) rfl ?_); refine goesL_ (some 20) rfl rfl Try.func26 (by kernel_rfl) rfl #[.string (⟨#[112]⟩ : ByteArray), .string (⟨#[115, 97, 108, 116, 101, 100, 32, 98, 121, 32, 116, 104, 101, 115, 101, 32]⟩ : ByteArray), .int .i64 0] rfl (by (try simp only [List.map_toArray, List.map_cons, List.map_nil]); first | done | rfl | (simp only [List.length_drop, List.length_take]; rfl)) ?_; (with_reducible refine (derive_Key.calls (⟨#[112]⟩ : ByteArray) (⟨#[115, 97, 108, 116, 101, 100, 32, 98, 121, 32, 116, 104, 101, 115, 101, 32]⟩ : ByteArray) 0 t108 t109 t110 _ A3.out).mono ?_); rintro e w30 ⟨rfl, hb⟩; refine ⟨_, rfl, ?_⟩; have n0_ := Aside0.mk (below_step (by repeat (first | (with_reducible first | exact HB.out | apply below_alloc | apply pw_below_drewN | apply below_drew1) | exact HB.out)) hb); clear HB; have HB := n0_; clear n0_; (try clear hb); (try clear hb2); (try clear hk); (try clear hi)) | ((with_reducible refine gate_callee (f := 26) rfl ?_); refine goesL_ (some 26) rfl rfl Try.func26 (by kernel_rfl) rfl #[.string (⟨#[112]⟩ : ByteArray), .string (⟨#[115, 97, 108, 116, 101, 100, 32, 98, 121, 32, 116, 104, 101, 115, 101, 32]⟩ : ByteArray), .int .i64 1] rfl (by (try simp only [List.map_toArray, List.map_cons, List.map_nil]); first | done | rfl | (simp only [List.length_drop, List.length_take]; rfl)) ?_; (with_reducible refine (derive_Key.calls (⟨#[112]⟩ : ByteArray) (⟨#[115, 97, 108, 116, 101, 100, 32, 98, 121, 32, 116, 104, 101, 115, 101, 32]⟩ : ByteArray) 1 t111 t112 t113 _ A4.out).mono ?_); rintro e w31 ⟨rfl, hb⟩; refine ⟨_, rfl, ?_⟩; have n0_ := Aside0.mk (below_step (by repeat (first | (with_reducible first | exact HB.out | apply below_alloc | apply pw_below_drewN | apply below_drew1) | exact HB.out)) hb); clear HB; have HB := n0_; clear n0_; (try clear hb); (try clear hb2); (try clear hk); (try clear hi)))
      go_ret
      exact ⟨by first | rfl | (simp [errW_none, errW_some] <;> rfl) | (simp [*, errW_none, errW_some] <;> rfl), by repeat (first | (with_reducible first | exact HB.out | apply below_alloc | apply pw_below_drewN | apply below_drew1) | exact HB.out)⟩
  · rw [if_neg c1] at H
    exact absurd H (by simp)

/-! ### hamperlaw08_DeriveNames: function 10 -/
def hamperlaw08_DeriveNames.l0 : Nat → ByteArray → List (S44) → Int → Int → Option (Bool)
  | 0, _, _, _, _ => none
  | k + 1, x1, x34, x35, x36 => if x36 < x35 then (if 0 ≤ x36 then (if x36 < (x34.length : Int) then ((Given.derive_Stretch.f ((rd_T44 x34 x36).f0) ((rd_T44 x34 x36).f1) ((rd_T44 x34 x36).f2) ((rd_T44 x34 x36).f3)).bind fun bt136 => ((derive_Key.f ((rd_T44 x34 x36).f0) ((rd_T44 x34 x36).f1) ((rd_T44 x34 x36).f2)).bind fun bt138 => (if bt136.2 = 1 then (if ((bt138.2.2 == 1) != (((rd_T44 x34 x36).f3) == 1)) = true then (some false) else (hamperlaw08_DeriveNames.l0 k x1 x34 x35 (wrap64 (x36 + 1)))) else (some false)))) else (none)) else (none)) else (if 64 ≤ 281474976710656 then ((derive_Key.f (strOfNums (List.replicate 64 0)) x1 64).bind fun bt128 => ((Given.derive_Stretch.f (⟨#[]⟩ : ByteArray) x1 1 2147483647).bind fun bt131 => (if bt128.2.2 = 0 then (if bt131.2 = 0 then ((hamperlaw08_awake.f).bind fun t133 => (some t133)) else (some false)) else (some false)))) else (none))
def hamperlaw08_DeriveNames.f (k : Nat)  : Option (Bool) := if 16 ≤ 281474976710656 then ((some (List.replicate 16 0 : List Int)).bind fun y116 => (if 65 ≤ 281474976710656 then (if 1 ≤ ((strOfNums y116).size : Int) then (if (strOfNums y116).size + 1 ≤ 9223372036854775807 then ((some (([(⟨strOfNums (List.replicate 65 0), strOfNums y116, 1, 1⟩ : S44), (⟨(⟨#[]⟩ : ByteArray), (strOfNums y116).extract 1 (strOfNums y116).size, 1, 1⟩ : S44), (⟨(⟨#[]⟩ : ByteArray), (strOfNums y116) ++ (⟨#[120]⟩ : ByteArray), 1, 1⟩ : S44), (⟨(⟨#[]⟩ : ByteArray), strOfNums y116, 0, 1⟩ : S44), (⟨(⟨#[]⟩ : ByteArray), strOfNums y116, 65, 1⟩ : S44), (⟨(⟨#[]⟩ : ByteArray), strOfNums y116, 1, 0⟩ : S44), (⟨(⟨#[]⟩ : ByteArray), strOfNums y116, 1, 2147483648⟩ : S44)] : List (S44)) : List (S44))).bind fun y122 => (hamperlaw08_DeriveNames.l0 k (strOfNums y116) y122 (y122.length : Int) 0)) else (none)) else (none)) else (none))) else (none)
theorem hamperlaw08_DeriveNames.mono_l : ∀ k, (∀ y0 y1 y2 y3, LeO (hamperlaw08_DeriveNames.l0 k y0 y1 y2 y3) (hamperlaw08_DeriveNames.l0 (k + 1) y0 y1 y2 y3))
  | 0 => fun _ _ _ _ r h => by simp [hamperlaw08_DeriveNames.l0] at h
  | k + 1 => by
    have ih0 := hamperlaw08_DeriveNames.mono_l k
    · intro y0 y1 y2 y3
      unfold hamperlaw08_DeriveNames.l0
      repeat' first
      | (with_reducible exact ih0 _ _ _ _)
      | (with_reducible exact LeO.refl _)
      | (with_reducible exact LeO.none _)
      | (with_reducible refine LeO.ite ?_ ?_)
      | (with_reducible refine LeO.bind ?_ (fun _ => ?_))
      | exact ih0 _ _ _ _
      | exact LeO.none _
      | refine LeO.ite ?_ ?_
      | refine LeO.bind ?_ (fun _ => ?_)
theorem hamperlaw08_DeriveNames.mono : ∀ k, LeO (hamperlaw08_DeriveNames.f k ) (hamperlaw08_DeriveNames.f (k + 1) ) := by
  intro  k
  have ih0 := hamperlaw08_DeriveNames.mono_l k
  unfold hamperlaw08_DeriveNames.f
  repeat' first
      | (with_reducible exact ih0 _ _ _ _)
      | (with_reducible exact LeO.refl _)
      | (with_reducible exact LeO.none _)
      | (with_reducible refine LeO.ite ?_ ?_)
      | (with_reducible refine LeO.bind ?_ (fun _ => ?_))
      | exact ih0 _ _ _ _
      | exact LeO.none _
      | refine LeO.ite ?_ ?_
      | refine LeO.bind ?_ (fun _ => ?_)
def hamperlaw08_DeriveNames.T2 : Bool × List (List Nat × List Nat) := (true, [([], []), ([0], [0]), ([], []), ([1, 2], [1, 2]), ([], []), ([4], [4]), ([5], [5]), ([], []), ([7], [7]), ([8], [8]), ([], []), ([10], [10]), ([], []), ([12], [12]), ([], []), ([14], [14]), ([], []), ([16], [16]), ([3, 6, 9, 11, 13, 15, 17], [3, 6, 9, 11, 13, 15, 17]), ([18], [18]), ([], [])])
def hamperlaw08_DeriveNames.B2 : List Nat := [0, 1, 0, 7, 0, 16, 48, 0, 128, 384, 0, 1024, 0, 4096, 0, 16384, 0, 65536, 262143, 524287, 0]
theorem hamperlaw08_DeriveNames.tab2 : rtab .any (opsOf Try.f10 2) = hamperlaw08_DeriveNames.T2 := by kernel_rfl
theorem hamperlaw08_DeriveNames.bits2 : waitsOk hamperlaw08_DeriveNames.T2.2 hamperlaw08_DeriveNames.B2 = true := by kernel_rfl
set_option maxHeartbeats 8000000 in
set_option maxRecDepth 100000 in
theorem hamperlaw08_DeriveNames.calls (k : Nat)  (r : Bool) (w : World) (h : hamperlaw08_DeriveNames.f k  = some r) (hr_ : Aside0 (r = true)) :
    Calls Try.prog 10 #[] w fun e w' => e = .returned (.bool r) ∧ Below w.heap.size w w' := by
  have hu44 := Try.underlying44
  have HB := Aside0.mk (Below.refl w.heap.size w)
  have H : (if 16 ≤ 281474976710656 then ((some (List.replicate 16 0 : List Int)).bind fun y116 => (if 65 ≤ 281474976710656 then (if 1 ≤ ((strOfNums y116).size : Int) then (if (strOfNums y116).size + 1 ≤ 9223372036854775807 then ((some (([(⟨strOfNums (List.replicate 65 0), strOfNums y116, 1, 1⟩ : S44), (⟨(⟨#[]⟩ : ByteArray), (strOfNums y116).extract 1 (strOfNums y116).size, 1, 1⟩ : S44), (⟨(⟨#[]⟩ : ByteArray), (strOfNums y116) ++ (⟨#[120]⟩ : ByteArray), 1, 1⟩ : S44), (⟨(⟨#[]⟩ : ByteArray), strOfNums y116, 0, 1⟩ : S44), (⟨(⟨#[]⟩ : ByteArray), strOfNums y116, 65, 1⟩ : S44), (⟨(⟨#[]⟩ : ByteArray), strOfNums y116, 1, 0⟩ : S44), (⟨(⟨#[]⟩ : ByteArray), strOfNums y116, 1, 2147483648⟩ : S44)] : List (S44)) : List (S44))).bind fun y122 => (hamperlaw08_DeriveNames.l0 k (strOfNums y116) y122 (y122.length : Int) 0)) else (none)) else (none)) else (none))) else (none)) = some r := h
  clear h
  by_cases c1 : 16 ≤ 281474976710656
  · rw [if_pos c1] at H
    have c1b0 := eq_true c1
    have c1b1 : decide (16 ≤ 281474976710656) = true := decide_eq_true c1
    clear c1
    obtain ⟨y116, hy116⟩ : ∃ y_ : List Int, y_ = (List.replicate 16 0) := ⟨_, rfl⟩
    replace H : (if 65 ≤ 281474976710656 then (if 1 ≤ ((strOfNums y116).size : Int) then (if (strOfNums y116).size + 1 ≤ 9223372036854775807 then ((some (([(⟨strOfNums (List.replicate 65 0), strOfNums y116, 1, 1⟩ : S44), (⟨(⟨#[]⟩ : ByteArray), (strOfNums y116).extract 1 (strOfNums y116).size, 1, 1⟩ : S44), (⟨(⟨#[]⟩ : ByteArray), (strOfNums y116) ++ (⟨#[120]⟩ : ByteArray), 1, 1⟩ : S44), (⟨(⟨#[]⟩ : ByteArray), strOfNums y116, 0, 1⟩ : S44), (⟨(⟨#[]⟩ : ByteArray), strOfNums y116, 65, 1⟩ : S44), (⟨(⟨#[]⟩ : ByteArray), strOfNums y116, 1, 0⟩ : S44), (⟨(⟨#[]⟩ : ByteArray), strOfNums y116, 1, 2147483648⟩ : S44)] : List (S44)) : List (S44))).bind fun y122 => (hamperlaw08_DeriveNames.l0 k (strOfNums y116) y122 (y122.length : Int) 0)) else (none)) else (none)) else (none)) = some r := by first | (rw [hy116]; with_reducible exact H) | (have H2_ := (Option.bind_some _ _).symm.trans H; rw [hy116]; with_reducible exact H2_) | (have H2_ := (Option.bind_some _ _).symm.trans H; with_reducible exact H2_) | with_reducible exact H | (rw [hy116]; exact H) | exact H
    have Ny116 := Aside0.mk hy116
    clear hy116
    by_cases c2 : 65 ≤ 281474976710656
    · rw [if_pos c2] at H
      have c2b0 := eq_true c2
      have c2b1 : decide (65 ≤ 281474976710656) = true := decide_eq_true c2
      clear c2
      obtain ⟨y119, hy119⟩ : ∃ y_ : List Int, y_ = (List.replicate 65 0) := ⟨_, rfl⟩
      replace H : (if 1 ≤ ((strOfNums y116).size : Int) then (if (strOfNums y116).size + 1 ≤ 9223372036854775807 then ((some (([(⟨strOfNums y119, strOfNums y116, 1, 1⟩ : S44), (⟨(⟨#[]⟩ : ByteArray), (strOfNums y116).extract 1 (strOfNums y116).size, 1, 1⟩ : S44), (⟨(⟨#[]⟩ : ByteArray), (strOfNums y116) ++ (⟨#[120]⟩ : ByteArray), 1, 1⟩ : S44), (⟨(⟨#[]⟩ : ByteArray), strOfNums y116, 0, 1⟩ : S44), (⟨(⟨#[]⟩ : ByteArray), strOfNums y116, 65, 1⟩ : S44), (⟨(⟨#[]⟩ : ByteArray), strOfNums y116, 1, 0⟩ : S44), (⟨(⟨#[]⟩ : ByteArray), strOfNums y116, 1, 2147483648⟩ : S44)] : List (S44)) : List (S44))).bind fun y122 => (hamperlaw08_DeriveNames.l0 k (strOfNums y116) y122 (y122.length : Int) 0)) else (none)) else (none)) = some r := by first | (rw [hy119]; with_reducible exact H) | (have H2_ := (Option.bind_some _ _).symm.trans H; rw [hy119]; with_reducible exact H2_) | (have H2_ := (Option.bind_some _ _).symm.trans H; with_reducible exact H2_) | with_reducible exact H | (rw [hy119]; exact H) | exact H
      have Ny119 := Aside0.mk hy119
      clear hy119
      by_cases c3 : 1 ≤ ((strOfNums y116).size : Int)
      · rw [if_pos c3] at H
        have c3b0 := eq_true c3
        have c3b1 : decide (1 ≤ ((strOfNums y116).size : Int)) = true := decide_eq_true c3
        clear c3
        by_cases c4 : (strOfNums y116).size + 1 ≤ 9223372036854775807
        · rw [if_pos c4] at H
          have c4b0 := eq_true c4
          have c4b1 : decide ((strOfNums y116).size + 1 ≤ 9223372036854775807) = true := decide_eq_true c4
          try have c4b2 : (9223372036854775807 < (strOfNums y116).size + 1) = False := eq_false (Nat.not_lt.2 c4)
          obtain ⟨y122, hy122⟩ : ∃ y_ : List (S44), y_ = (([(⟨strOfNums y119, strOfNums y116, 1, 1⟩ : S44), (⟨(⟨#[]⟩ : ByteArray), (strOfNums y116).extract 1 (strOfNums y116).size, 1, 1⟩ : S44), (⟨(⟨#[]⟩ : ByteArray), (strOfNums y116) ++ (⟨#[120]⟩ : ByteArray), 1, 1⟩ : S44), (⟨(⟨#[]⟩ : ByteArray), strOfNums y116, 0, 1⟩ : S44), (⟨(⟨#[]⟩ : ByteArray), strOfNums y116, 65, 1⟩ : S44), (⟨(⟨#[]⟩ : ByteArray), strOfNums y116, 1, 0⟩ : S44), (⟨(⟨#[]⟩ : ByteArray), strOfNums y116, 1, 2147483648⟩ : S44)] : List (S44))) := ⟨_, rfl⟩
          replace H : (hamperlaw08_DeriveNames.l0 k (strOfNums y116) y122 (y122.length : Int) 0) = some r := by first | (rw [hy122]; with_reducible exact H) | (have H2_ := (Option.bind_some _ _).symm.trans H; rw [hy122]; with_reducible exact H2_) | (have H2_ := (Option.bind_some _ _).symm.trans H; with_reducible exact H2_) | with_reducible exact H | (rw [hy122]; exact H) | exact H
          have Ny122 := Aside0.mk hy122
          clear hy122
          have H' := Aside0.mk H
          clear H
          go_enter Try.func10, Try.ntmps10
          try go_wp2_with (first | ((with_reducible refine gate_dst (N := 14) rfl ?_); refine Kd.R_make (Kd.int .u8) _ 5 rfl (N := 14) rfl 37 _ _ rfl 16 rfl rfl Try.underlying37 (.int .u8 0) 1 info5 rfl (by decide) (by omega) 0 (ok := fun _ => True) (okp := fun _ => True) rfl (fun _ hk => hk) trivial (by omega) (by omega) (Below.refl _ _) (Nat.le_refl _) ?_; intro v117 w5 ho6 hb hg_ hnew_; clear hg_ hnew_; (first | rw [← Ny116.out] at ho6 | (simp only [Int.reduceToNat] at ho6; rw [← Ny116.out] at ho6)); have n0_ := Aside0.mk (Kd.R_lower ho6 (below_size (by repeat (first | (with_reducible first | exact HB.out | apply below_alloc | apply pw_below_drewN | apply below_drew1) | exact HB.out)))); have n1_ := Aside0.mk (below_step (by repeat (first | (with_reducible first | exact HB.out | apply below_alloc | apply pw_below_drewN | apply below_drew1) | exact HB.out)) hb); clear HB; have HO118 := n0_; have HB := n1_; clear n0_ n1_; clear hb ho6; have hcv7 := own_string (P := Try.prog) Try.underlying37 Try.underlying5 Try.underlying9 (Kd.own_of_R HO118.out)))
          have n0_ := Aside0.mk (Kd.R_drew HO118.out)
          have n1_ := Aside0.mk (below_drew1 HB.out)
          clear HO118
          clear HB
          have HO118 := n0_
          have HB := n1_
          clear n0_ n1_
          refine start_ (n := 21) (S := fun w' => True) (ds := []) #[false, false, false, false, false, false, false, false, false, false, false, false, false, false, false, false, false, false, false, false, false] (by kernel_rfl) rfl rfl trivial (fun hHeld => ?_); refine with_tabW hamperlaw08_DeriveNames.tab2 hamperlaw08_DeriveNames.bits2 (fun HT_ HW_ => ?_)
          generalize w5.drew = w8 at HO118 HB hHeld ⊢
          refine pure_ (i := 2) (N := some 18) (v := ?_) (a' := ?_) #[false, false, true, false, false, false, false, false, false, false, false, false, false, false, false, false, false, false, false, false, false] rfl rfl (any_of HT_.out (by kernel_rfl)) (fun _ _ _ h => h) (Or.inl ⟨by rfl, ?_⟩) ?_ ?_
          rotate_left
          · intro w'
            go_simp
            with_reducible rfl
          rotate_left
          · simp only [Act.put, List.setIfInBounds_toArray, List.set_cons_zero, List.set_cons_succ, i64_w, i32_w]
            rfl
          refine pure_ (i := 4) (N := some 20) (v := ?_) (a' := ?_) #[false, false, true, false, true, false, false, false, false, false, false, false, false, false, false, false, false, false, false, false, false] rfl rfl (any_of HT_.out (by kernel_rfl)) (fun _ _ _ h => h) (Or.inl ⟨by rfl, ?_⟩) ?_ ?_
          rotate_left
          · intro w'
            go_simp
            with_reducible rfl
          rotate_left
          · simp only [Act.put, List.setIfInBounds_toArray, List.set_cons_zero, List.set_cons_succ, i64_w, i32_w]
            rfl
          refine pure_ (i := 5) (N := some 21) (v := ?_) (a' := ?_) #[false, false, true, false, true, true, false, false, false, false, false, false, false, false, false, false, false, false, false, false, false] rfl rfl (any_of HT_.out (by kernel_rfl)) (fun _ _ _ h => h) (Or.inl ⟨by rfl, ?_⟩) ?_ ?_
          rotate_left
          · intro w'
            go_simp
            with_reducible rfl
          rotate_left
          · simp only [Act.put, List.setIfInBounds_toArray, List.set_cons_zero, List.set_cons_succ, i64_w, i32_w]
            rfl
          refine pure_ (i := 6) (N := some 22) (v := ?_) (a' := ?_) #[false, false, true, false, true, true, true, false, false, false, false, false, false, false, false, false, false, false, false, false, false] rfl rfl (any_of HT_.out (by kernel_rfl)) (fun _ _ _ h => h) (Or.inl ⟨by rfl, ?_⟩) ?_ ?_
          rotate_left
          · intro w'
            go_simp
            with_reducible rfl
          rotate_left
          · simp only [Act.put, List.setIfInBounds_toArray, List.set_cons_zero, List.set_cons_succ, i64_w, i32_w]
            rfl
          refine pure_ (i := 7) (N := some 23) (v := ?_) (a' := ?_) #[false, false, true, false, true, true, true, true, false, false, false, false, false, false, false, false, false, false, false, false, false] rfl rfl (any_of HT_.out (by kernel_rfl)) (fun _ _ _ h => h) (Or.inl ⟨by rfl, ?_⟩) ?_ ?_
          rotate_left
          · intro w'
            go_simp
            with_reducible rfl
          rotate_left
          · simp only [Act.put, List.setIfInBounds_toArray, List.set_cons_zero, List.set_cons_succ, i64_w, i32_w]
            rfl
          refine pure_ (i := 8) (N := some 24) (v := ?_) (a' := ?_) #[false, false, true, false, true, true, true, true, true, false, false, false, false, false, false, false, false, false, false, false, false] rfl rfl (any_of HT_.out (by kernel_rfl)) (fun _ _ _ h => h) (Or.inl ⟨by rfl, ?_⟩) ?_ ?_
          rotate_left
          · intro w'
            go_simp
            with_reducible rfl
          rotate_left
          · simp only [Act.put, List.setIfInBounds_toArray, List.set_cons_zero, List.set_cons_succ, i64_w, i32_w]
            rfl
          refine pure_ (i := 9) (N := some 25) (v := ?_) (a' := ?_) #[false, false, true, false, true, true, true, true, true, true, false, false, false, false, false, false, false, false, false, false, false] rfl rfl (any_of HT_.out (by kernel_rfl)) (fun _ _ _ h => h) (Or.inl ⟨by rfl, ?_⟩) ?_ ?_
          rotate_left
          · intro w'
            go_simp
            with_reducible rfl
          rotate_left
          · simp only [Act.put, List.setIfInBounds_toArray, List.set_cons_zero, List.set_cons_succ, i64_w, i32_w]
            rfl
          refine pure_ (i := 10) (N := some 26) (v := ?_) (a' := ?_) #[false, false, true, false, true, true, true, true, true, true, true, false, false, false, false, false, false, false, false, false, false] rfl rfl (any_of HT_.out (by kernel_rfl)) (fun _ _ _ h => h) (Or.inl ⟨by rfl, ?_⟩) ?_ ?_
          rotate_left
          · intro w'
            go_simp
            with_reducible rfl
          rotate_left
          · simp only [Act.put, List.setIfInBounds_toArray, List.set_cons_zero, List.set_cons_succ, i64_w, i32_w]
            rfl
          refine pure_ (i := 11) (N := some 27) (v := ?_) (a' := ?_) #[false, false, true, false, true, true, true, true, true, true, true, true, false, false, false, false, false, false, false, false, false] rfl rfl (any_of HT_.out (by kernel_rfl)) (fun _ _ _ h => h) (Or.inl ⟨by rfl, ?_⟩) ?_ ?_
          rotate_left
          · intro w'
            go_simp
            with_reducible rfl
          rotate_left
          · simp only [Act.put, List.setIfInBounds_toArray, List.set_cons_zero, List.set_cons_succ, i64_w, i32_w]
            rfl
          refine pure_ (i := 12) (N := some 28) (v := ?_) (a' := ?_) #[false, false, true, false, true, true, true, true, true, true, true, true, true, false, false, false, false, false, false, false, false] rfl rfl (any_of HT_.out (by kernel_rfl)) (fun _ _ _ h => h) (Or.inl ⟨by rfl, ?_⟩) ?_ ?_
          rotate_left
          · intro w'
            go_simp
            with_reducible rfl
          rotate_left
          · simp only [Act.put, List.setIfInBounds_toArray, List.set_cons_zero, List.set_cons_succ, i64_w, i32_w]
            rfl
          refine pure_ (i := 13) (N := some 29) (v := ?_) (a' := ?_) #[false, false, true, false, true, true, true, true, true, true, true, true, true, true, false, false, false, false, false, false, false] rfl rfl (any_of HT_.out (by kernel_rfl)) (fun _ _ _ h => h) (Or.inl ⟨by rfl, ?_⟩) ?_ ?_
          rotate_left
          · intro w'
            go_simp
            with_reducible rfl
          rotate_left
          · simp only [Act.put, List.setIfInBounds_toArray, List.set_cons_zero, List.set_cons_succ, i64_w, i32_w]
            rfl
          refine pure_ (i := 14) (N := some 30) (v := ?_) (a' := ?_) #[false, false, true, false, true, true, true, true, true, true, true, true, true, true, true, false, false, false, false, false, false] rfl rfl (any_of HT_.out (by kernel_rfl)) (fun _ _ _ h => h) (Or.inl ⟨by rfl, ?_⟩) ?_ ?_
          rotate_left
          · intro w'
            go_simp
            with_reducible rfl
          rotate_left
          · simp only [Act.put, List.setIfInBounds_toArray, List.set_cons_zero, List.set_cons_succ, i64_w, i32_w]
            rfl
          refine pure_ (i := 15) (N := some 31) (v := ?_) (a' := ?_) #[false, false, true, false, true, true, true, true, true, true, true, true, true, true, true, true, false, false, false, false, false] rfl rfl (any_of HT_.out (by kernel_rfl)) (fun _ _ _ h => h) (Or.inl ⟨by rfl, ?_⟩) ?_ ?_
          rotate_left
          · intro w'
            go_simp
            with_reducible rfl
          rotate_left
          · simp only [Act.put, List.setIfInBounds_toArray, List.set_cons_zero, List.set_cons_succ, i64_w, i32_w]
            rfl
          refine pure_ (i := 16) (N := some 32) (v := ?_) (a' := ?_) #[false, false, true, false, true, true, true, true, true, true, true, true, true, true, true, true, true, false, false, false, false] rfl rfl (any_of HT_.out (by kernel_rfl)) (fun _ _ _ h => h) (Or.inl ⟨by rfl, ?_⟩) ?_ ?_
          rotate_left
          · intro w'
            go_simp
            with_reducible rfl
          rotate_left
          · simp only [Act.put, List.setIfInBounds_toArray, List.set_cons_zero, List.set_cons_succ, i64_w, i32_w]
            rfl
          refine pure_ (i := 17) (N := some 33) (v := ?_) (a' := ?_) #[false, false, true, false, true, true, true, true, true, true, true, true, true, true, true, true, true, true, false, false, false] rfl rfl (any_of HT_.out (by kernel_rfl)) (fun _ _ _ h => h) (Or.inl ⟨by rfl, ?_⟩) ?_ ?_
          rotate_left
          · intro w'
            go_simp
            with_reducible rfl
          rotate_left
          · simp only [Act.put, List.setIfInBounds_toArray, List.set_cons_zero, List.set_cons_succ, i64_w, i32_w]
            rfl
          refine pure_ (i := 20) (N := some 36) (v := ?_) (a' := ?_) #[false, false, true, false, true, true, true, true, true, true, true, true, true, true, true, true, true, true, false, false, true] rfl rfl (any_of HT_.out (by kernel_rfl)) (fun _ _ _ h => h) (Or.inl ⟨by rfl, ?_⟩) ?_ ?_
          rotate_left
          · intro w'
            go_simp
            with_reducible rfl
          rotate_left
          · simp only [Act.put, List.setIfInBounds_toArray, List.set_cons_zero, List.set_cons_succ, i64_w, i32_w]
            rfl
          refine one_ (i := 0) (N := some 16) #[true, false, true, false, true, true, true, true, true, true, true, true, true, true, true, true, true, true, false, false, true] rfl rfl (one_of HT_.out (by kernel_rfl)) (by decide) (fun K hK => ?_)
          refine Kd.R_make_step (Kd.int .u8) _ 5 (by rfl) (N := 16) rfl 37 _ _ rfl 65 rfl rfl Try.underlying37 (.int .u8 0) 1 info5 rfl (by decide) (by omega) 0 (ok := fun _ => True) (okp := fun _ => True) rfl (fun _ hk => hk) trivial (by omega) (by omega) (Below.refl _ _) (Nat.le_refl _) ?_
          intro v120 w9 ho10 hb hg_ hnew_
          clear hg_ hnew_
          (first | rw [← Ny119.out] at ho10 | (simp only [Int.reduceToNat] at ho10; rw [← Ny119.out] at ho10))
          have n0_ := Aside0.mk (Kd.R_elder' (by (with_reducible repeat (first | apply Kd.R_alloc | apply Kd.R_drewN | apply Kd.R_drew)); exact HO118.out) (Kd.R_base ho10) hb)
          have n1_ := Aside0.mk (Kd.R_lower (Kd.R_new' ho10 (Kd.R_lt (by (with_reducible repeat (first | apply Kd.R_alloc | apply Kd.R_drewN | apply Kd.R_drew)); exact HO118.out))) (below_size (by repeat (first | (with_reducible first | exact HB.out | apply below_alloc | apply pw_below_drewN | apply below_drew1) | exact HB.out))))
          have n2_ := Aside0.mk (below_step (by repeat (first | (with_reducible first | exact HB.out | apply below_alloc | apply pw_below_drewN | apply below_drew1) | exact HB.out)) hb)
          clear HO118
          clear HB
          have HO118 := n0_
          have HO121 := n1_
          have HB := n2_
          clear n0_ n1_ n2_
          clear hb ho10
          refine hK.out _ _ trivial (fun hHeld => ?_)
          clear hK K
          refine norm_ (a' := ?_) ?_ ?_
          rotate_left
          · show Act.put _ (some 16) _ = _
            simp only [Act.put, List.setIfInBounds_toArray, List.set_cons_zero, List.set_cons_succ, i64_w, i32_w]
            rfl
          refine one_ (i := 1) (N := some 17) #[true, true, true, false, true, true, true, true, true, true, true, true, true, true, true, true, true, true, false, false, true] rfl rfl (one_of HT_.out (by kernel_rfl)) (by decide) (fun K hK => ?_)
          have hcv11 := own_string (P := Try.prog) Try.underlying37 Try.underlying5 Try.underlying9 (Kd.own_of_R HO121.out)
          refine value_ (w1 := ?_) (v := ?_) (by rfl) rfl ?_ ?_
          rotate_left 2
          · go_simp
            constructor
            · rfl
            · rfl
          clear hcv11
          refine hK.out _ _ trivial (fun hHeld => ?_)
          clear hK K
          refine norm_ (a' := ?_) ?_ ?_
          rotate_left
          · show Act.put _ (some 17) _ = _
            simp only [Act.put, List.setIfInBounds_toArray, List.set_cons_zero, List.set_cons_succ, i64_w, i32_w]
            rfl
          refine pure_ (i := 3) (N := some 19) (v := ?_) (a' := ?_) #[true, true, true, true, true, true, true, true, true, true, true, true, true, true, true, true, true, true, false, false, true] rfl rfl (any_of HT_.out (by kernel_rfl)) (fun _ _ _ h => h) (Or.inl ⟨by rfl, ?_⟩) ?_ ?_
          rotate_left
          · intro w'
            go_simp
            with_reducible rfl
          rotate_left
          · simp only [Act.put, List.setIfInBounds_toArray, List.set_cons_zero, List.set_cons_succ, i64_w, i32_w]
            rfl
          refine one_ (i := 18) (N := some 34) #[true, true, true, true, true, true, true, true, true, true, true, true, true, true, true, true, true, true, true, false, true] rfl rfl (one_of HT_.out (by kernel_rfl)) (by decide) (fun K hK => ?_)
          refine Kd.R_lit_step k44 _ 44 ?hg (N := 34) ?hd (xs := ([(⟨strOfNums y119, strOfNums y116, 1, 1⟩ : S44), (⟨(⟨#[]⟩ : ByteArray), (strOfNums y116).extract 1 (strOfNums y116).size, 1, 1⟩ : S44), (⟨(⟨#[]⟩ : ByteArray), (strOfNums y116) ++ (⟨#[120]⟩ : ByteArray), 1, 1⟩ : S44), (⟨(⟨#[]⟩ : ByteArray), strOfNums y116, 0, 1⟩ : S44), (⟨(⟨#[]⟩ : ByteArray), strOfNums y116, 65, 1⟩ : S44), (⟨(⟨#[]⟩ : ByteArray), strOfNums y116, 1, 0⟩ : S44), (⟨(⟨#[]⟩ : ByteArray), strOfNums y116, 1, 2147483648⟩ : S44)] : List (S44))) (inner := [.string (strOfNums y119), .string (strOfNums y116), .int .i64 1, .int .i64 1, .string (⟨#[]⟩ : ByteArray), .string ((strOfNums y116).extract 1 (strOfNums y116).size), .int .i64 1, .int .i64 1, .string (⟨#[]⟩ : ByteArray), .string ((strOfNums y116) ++ (⟨#[120]⟩ : ByteArray)), .int .i64 1, .int .i64 1, .string (⟨#[]⟩ : ByteArray), .string (strOfNums y116), .int .i64 0, .int .i64 1, .string (⟨#[]⟩ : ByteArray), .string (strOfNums y116), .int .i64 65, .int .i64 1, .string (⟨#[]⟩ : ByteArray), .string (strOfNums y116), .int .i64 1, .int .i64 0, .string (⟨#[]⟩ : ByteArray), .string (strOfNums y116), .int .i64 1, .int .i64 2147483648]) (ok := fun _ => True) (okp := fun _ => True) ?hr ?hp (fun _ hk => hk) trivial (Below.refl _ _) (Nat.le_refl _) (by simp) ?_; (case hd => rfl); (case hg => rfl); (case hr => first | (go_simp; done) | (go_simp; rfl)); (case hp => exact (Reps.c4 (show Kd.M k44 _ _ _ (⟨strOfNums y119, strOfNums y116, 1, 1⟩ : S44) [.string (strOfNums y119), .string (strOfNums y116), .int .i64 1, .int .i64 1] from (k44_mkM _ _ _ (⟨strOfNums y119, strOfNums y116, 1, 1⟩ : S44) )) (Reps.c4 (show Kd.M k44 _ _ _ (⟨(⟨#[]⟩ : ByteArray), (strOfNums y116).extract 1 (strOfNums y116).size, 1, 1⟩ : S44) [.string (⟨#[]⟩ : ByteArray), .string ((strOfNums y116).extract 1 (strOfNums y116).size), .int .i64 1, .int .i64 1] from (k44_mkM _ _ _ (⟨(⟨#[]⟩ : ByteArray), (strOfNums y116).extract 1 (strOfNums y116).size, 1, 1⟩ : S44) )) (Reps.c4 (show Kd.M k44 _ _ _ (⟨(⟨#[]⟩ : ByteArray), (strOfNums y116) ++ (⟨#[120]⟩ : ByteArray), 1, 1⟩ : S44) [.string (⟨#[]⟩ : ByteArray), .string ((strOfNums y116) ++ (⟨#[120]⟩ : ByteArray)), .int .i64 1, .int .i64 1] from (k44_mkM _ _ _ (⟨(⟨#[]⟩ : ByteArray), (strOfNums y116) ++ (⟨#[120]⟩ : ByteArray), 1, 1⟩ : S44) )) (Reps.c4 (show Kd.M k44 _ _ _ (⟨(⟨#[]⟩ : ByteArray), strOfNums y116, 0, 1⟩ : S44) [.string (⟨#[]⟩ : ByteArray), .string (strOfNums y116), .int .i64 0, .int .i64 1] from (k44_mkM _ _ _ (⟨(⟨#[]⟩ : ByteArray), strOfNums y116, 0, 1⟩ : S44) )) (Reps.c4 (show Kd.M k44 _ _ _ (⟨(⟨#[]⟩ : ByteArray), strOfNums y116, 65, 1⟩ : S44) [.string (⟨#[]⟩ : ByteArray), .string (strOfNums y116), .int .i64 65, .int .i64 1] from (k44_mkM _ _ _ (⟨(⟨#[]⟩ : ByteArray), strOfNums y116, 65, 1⟩ : S44) )) (Reps.c4 (show Kd.M k44 _ _ _ (⟨(⟨#[]⟩ : ByteArray), strOfNums y116, 1, 0⟩ : S44) [.string (⟨#[]⟩ : ByteArray), .string (strOfNums y116), .int .i64 1, .int .i64 0] from (k44_mkM _ _ _ (⟨(⟨#[]⟩ : ByteArray), strOfNums y116, 1, 0⟩ : S44) )) (Reps.c4 (show Kd.M k44 _ _ _ (⟨(⟨#[]⟩ : ByteArray), strOfNums y116, 1, 2147483648⟩ : S44) [.string (⟨#[]⟩ : ByteArray), .string (strOfNums y116), .int .i64 1, .int .i64 2147483648] from (k44_mkM _ _ _ (⟨(⟨#[]⟩ : ByteArray), strOfNums y116, 1, 2147483648⟩ : S44) )) (Reps.none _ _)))))))))
          intro v123 w12 ho13 hb hg_ hnew_
          clear hg_ hnew_
          (first | rw [← Ny122.out] at ho13 | (simp only [Int.reduceToNat] at ho13; rw [← Ny122.out] at ho13))
          have n0_ := Aside0.mk (Kd.R_below (by (with_reducible repeat (first | apply Kd.R_alloc | apply Kd.R_drewN | apply Kd.R_drew)); exact HO118.out) hb)
          have n1_ := Aside0.mk (Kd.R_below (by (with_reducible repeat (first | apply Kd.R_alloc | apply Kd.R_drewN | apply Kd.R_drew)); exact HO121.out) hb)
          have n2_ := Aside0.mk (Kd.R_lower ho13 (below_size (by repeat (first | (with_reducible first | exact HB.out | apply below_alloc | apply pw_below_drewN | apply below_drew1) | exact HB.out))))
          have n3_ := Aside0.mk (below_step (by repeat (first | (with_reducible first | exact HB.out | apply below_alloc | apply pw_below_drewN | apply below_drew1) | exact HB.out)) hb)
          clear HO118
          clear HO121
          clear HB
          have HO118 := n0_
          have HO121 := n1_
          have HO124 := n2_
          have HB := n3_
          clear n0_ n1_ n2_ n3_
          clear hb ho13
          obtain ⟨Ao14, co14, eo14⟩ := Kd.R_slice HO124.out
          (first | subst eo14 | (injection eo14 with f1_ f2_ f3_; have f4_ := f1_.symm; have f5_ := f3_.symm; clear f1_ f2_ f3_; subst f4_; subst f5_))
          refine hK.out _ _ trivial (fun hHeld => ?_)
          clear hK K
          refine norm_ (a' := ?_) ?_ ?_
          rotate_left
          · show Act.put _ (some 34) _ = _
            simp only [Act.put, List.setIfInBounds_toArray, List.set_cons_zero, List.set_cons_succ, i64_w, i32_w]
            rfl
          refine pure_ (i := 19) (N := some 35) (v := ?_) (a' := ?_) #[true, true, true, true, true, true, true, true, true, true, true, true, true, true, true, true, true, true, true, true, true] rfl rfl (any_of HT_.out (by kernel_rfl)) (fun _ _ _ h => h) (Or.inl ⟨by rfl, ?_⟩) ?_ ?_
          rotate_left
          · intro w'
            go_simp
            with_reducible rfl
          rotate_left
          · simp only [Act.put, List.setIfInBounds_toArray, List.set_cons_zero, List.set_cons_succ, i64_w, i32_w]
            rfl
          refine done_ (done_of HT_.out (by kernel_rfl)) ?_
          try go_wp2
          go_loopg [36] k (fun kq v36 w' => ∃ (x36_1 : Int), v36 = .int .i64 x36_1 ∧ Aside0 (hamperlaw08_DeriveNames.l0 kq (strOfNums y116) y122 (y122.length : Int) x36_1 = some r) ∧ Aside0 (kq ≤ k) ∧ Aside0 (Kd.R k44 44 w' w.heap.size (fun _ => True) (.slice Ao14 y122.length co14) y122) ∧ Aside0 (Below w.heap.size w w'))
          case atStart => exact ⟨(0), (by first | rfl | (simp; done) | (simp [*]; done)), H', ⟨Nat.le_refl _⟩, ⟨by (with_reducible repeat (first | apply Kd.R_alloc | apply Kd.R_drewN | apply Kd.R_drew)); exact HO124.out⟩, ⟨by repeat (first | (with_reducible first | exact HB.out | apply below_alloc | apply pw_below_drewN | apply below_drew1) | exact HB.out)⟩⟩
          case round =>
            clear H'
            try clear c1
            try clear c1b0
            try clear c1b1
            try clear hcv1
            try clear c2
            try clear c2b0
            try clear c2b1
            try clear p2
            try clear c3
            try clear c3b0
            try clear c3b1
            try clear c4
            try clear c4b0
            try clear c4b1
            try clear c4b2
            try clear hcv7
            try clear c10
            try clear hcv11
            obtain ⟨x36_1, rfl, HA, HK1, HO_34, HB⟩ := hrel
            cases gk with
            | zero => exact absurd HA.out (by simp [hamperlaw08_DeriveNames.l0])
            | succ k1 =>
              have H := HA.out
              clear HA
              simp only [hamperlaw08_DeriveNames.l0] at H
              by_cases c15 : x36_1 < (y122.length : Int)
              · rw [if_pos c15] at H
                have c15b0 : decide (x36_1 < (y122.length : Int)) = true := decide_eq_true c15
                clear c15
                by_cases c16 : 0 ≤ x36_1
                · rw [if_pos c16] at H
                  have c16b0 : decide (0 ≤ x36_1) = true := decide_eq_true c16
                  clear c16
                  by_cases c17 : x36_1 < (y122.length : Int)
                  · rw [if_pos c17] at H
                    have c17b0 : decide (x36_1 < (y122.length : Int)) = true := decide_eq_true c17
                    clear c17
                    replace H := Option.bind_eq_some_iff.mp H
                    obtain ⟨⟨t136, t137⟩, A180, H⟩ := H
                    replace H : ((derive_Key.f ((rd_T44 y122 x36_1).f0) ((rd_T44 y122 x36_1).f1) ((rd_T44 y122 x36_1).f2)).bind fun bt138 => (if t137 = 1 then (if ((bt138.2.2 == 1) != (((rd_T44 y122 x36_1).f3) == 1)) = true then (some false) else (hamperlaw08_DeriveNames.l0 k1 (strOfNums y116) y122 (y122.length : Int) (wrap64 (x36_1 + 1)))) else (some false))) = some r := H
                    have A18 := Aside0.mk A180
                    clear A180
                    replace H := Option.bind_eq_some_iff.mp H
                    obtain ⟨⟨t138, t139, t140⟩, A190, H⟩ := H
                    replace H : (if t137 = 1 then (if ((t140 == 1) != (((rd_T44 y122 x36_1).f3) == 1)) = true then (some false) else (hamperlaw08_DeriveNames.l0 k1 (strOfNums y116) y122 (y122.length : Int) (wrap64 (x36_1 + 1)))) else (some false)) = some r := H
                    have A19 := Aside0.mk A190
                    clear A190
                    by_cases c20 : t137 = 1
                    · rw [if_pos c20] at H
                      have c20b0 : (t137 == 1) = true := beq_iff_eq.mpr c20
                      have c20b1 : (t137 != 1) = false := bne_eq_false_iff_eq.mpr c20
                      clear c20
                      by_cases c21 : ((t140 == 1) != (((rd_T44 y122 x36_1).f3) == 1)) = true
                      · rw [if_pos c21] at H
                        have c21b0 : ((t140 == 1) != (((rd_T44 y122 x36_1).f3) == 1)) = true := c21
                        (try (have c21b1 : decide ((t140 == 1) = (((rd_T44 y122 x36_1).f3) == 1)) = false := by simpa using c21))
                        (try (have c21b2 : ((t140 == 1) == (((rd_T44 y122 x36_1).f3) == 1)) = false := by simpa using c21))
                        (try (have c21b3 : ¬ ((t140 == 1) = (((rd_T44 y122 x36_1).f3) == 1)) := by simpa using c21))
                        clear c21
                        exact absurd ((Option.some.inj H).trans hr_.out) Bool.false_ne_true
                      · rw [if_neg c21] at H
                        have c21b0 : ((t140 == 1) != (((rd_T44 y122 x36_1).f3) == 1)) = false := by simpa using c21
                        (try (have c21b1 : decide ((t140 == 1) = (((rd_T44 y122 x36_1).f3) == 1)) = true := by simpa using c21))
                        (try (have c21b2 : ((t140 == 1) == (((rd_T44 y122 x36_1).f3) == 1)) = true := by simpa using c21))
                        clear c21
                        have H' := Aside0.mk H
                        clear H
                        have p134 : 0 ≤ (x36_1 : Int) := of_decide_eq_true (by first | (with_reducible assumption) | assumption)
                        have q134 : x36_1 < (y122.length : Int) := of_decide_eq_true (by first | (with_reducible assumption) | assumption)
                        obtain ⟨ad134, e134, hx134_0, hx134_1, hx134_2, hx134_3⟩ := at_T44 (Kd.R_reads' HO_34.out).2.2 x36_1 p134 q134
                        cases e134
                        replace p134 := eq_true p134
                        replace q134 := eq_true q134
                        go_wp2_with (first | ((with_reducible refine gate_dst (N := 3) rfl ?_); refine box_event ?hg (N := 3) ?hd (cs := #[.string (⟨#[]⟩ : ByteArray), .string (⟨#[]⟩ : ByteArray), .int .i64 0, .int .i64 0]) (t := 44) ?hr ?_; (case hd => rfl); (case hg => rfl); (case hr => first | (go_simp; done) | (go_simp; rfl)); intro gb135 hg w22 hbox hb; have n0_ := Aside0.mk (Kd.R_below (Kd.R_elderB (by (with_reducible repeat (first | apply Kd.R_alloc | apply Kd.R_drewN | apply Kd.R_drew)); exact HO_34.out) gb135 (Nat.le_of_eq hg.symm)) hb); have n1_ := Aside0.mk (below_step (by repeat (first | (with_reducible first | exact HB.out | apply below_alloc | apply pw_below_drewN | apply below_drew1) | exact HB.out)) hb); have n2_ := Aside0.mk (hbox); have n3_ := Aside0.mk ((by rw [hg]; exact (below_size (by repeat (first | (with_reducible first | exact HB.out | apply below_alloc | apply pw_below_drewN | apply below_drew1) | exact HB.out))) : w.heap.size ≤ gb135)); have n4_ := Aside0.mk ((by rw [hg]; exact (below_size (by repeat (first | (with_reducible first | exact HB.out | apply below_alloc | apply pw_below_drewN | apply below_drew1) | exact HB.out))) : w.heap.size ≤ gb135)); clear HO_34; clear HB; have HO_34 := n0_; have HB := n1_; have BK135 := n2_; have GW135 := n3_; have GE135 := n4_; clear n0_ n1_ n2_ n3_ n4_; clear hb hbox hg; have hcz23_0 : w22.cell? ⟨gb135, 0, none⟩ = some (.string (⟨#[]⟩ : ByteArray)) := (blk_cell BK135.out 0).trans rfl; have hcz23_1 : w22.cell? ⟨gb135, 1, none⟩ = some (.string (⟨#[]⟩ : ByteArray)) := (blk_cell BK135.out 1).trans rfl; have hcz23_2 : w22.cell? ⟨gb135, 2, none⟩ = some (.int .i64 0) := (blk_cell BK135.out 2).trans rfl; have hcz23_3 : w22.cell? ⟨gb135, 3, none⟩ = some (.int .i64 0) := (blk_cell BK135.out 3).trans rfl; have hfz23_0 := blk_frozen BK135.out 0; have hfz23_1 := blk_frozen BK135.out 1; have hfz23_2 := blk_frozen BK135.out 2; have hfz23_3 := blk_frozen BK135.out 3) | ((with_reducible refine gate_callee (f := 28) rfl ?_); refine goesL_ (some 49) rfl rfl Try.func28 (by kernel_rfl) rfl #[.string ((rd_T44 y122 x36_1).f0), .string ((rd_T44 y122 x36_1).f1), .int .i64 ((rd_T44 y122 x36_1).f2), .int .i64 ((rd_T44 y122 x36_1).f3)] rfl (by (try simp only [List.map_toArray, List.map_cons, List.map_nil]); first | done | rfl | (simp only [List.length_drop, List.length_take]; rfl)) ?_; (with_reducible refine (Given.derive_Stretch.calls ((rd_T44 y122 x36_1).f0) ((rd_T44 y122 x36_1).f1) ((rd_T44 y122 x36_1).f2) ((rd_T44 y122 x36_1).f3) t136 t137 _ A18.out).mono ?_); rintro e w24 ⟨rfl, hb⟩; refine ⟨_, rfl, ?_⟩; have n0_ := Aside0.mk (Kd.R_below (by (with_reducible repeat (first | apply Kd.R_alloc | apply Kd.R_drewN | apply Kd.R_drew)); exact (Kd.R_mono (Kd.R_far (p := ⟨gb135, 3, none⟩) (Kd.R_far (p := ⟨gb135, 2, none⟩) (Kd.R_far (p := ⟨gb135, 1, none⟩) (Kd.R_far (p := ⟨gb135, 0, none⟩) (Kd.R_mono HO_34.out (fun k_ hk => (⟨hk, hk.2⟩ : _ ∧ k_ ≠ gb135))) (fun _ hk => hk.2) (.string ((rd_T44 y122 x36_1).f0))) (fun _ hk => hk.2) (.string ((rd_T44 y122 x36_1).f1))) (fun _ hk => hk.2) (.int .i64 ((rd_T44 y122 x36_1).f2))) (fun _ hk => hk.2) (.int .i64 ((rd_T44 y122 x36_1).f3))) (fun _ h_ => h_.1))) hb); have n1_ := Aside0.mk (blk_below (g := gb135) (o := .cells #[.string ((rd_T44 y122 x36_1).f0), .string ((rd_T44 y122 x36_1).f1), .int .i64 ((rd_T44 y122 x36_1).f2), .int .i64 ((rd_T44 y122 x36_1).f3)] 44 (0, 0)) (by (with_reducible repeat (first | refine blk_drewN ?_ _ | refine blk_drew ?_ | refine blk_alloc ?_ _)); refine blk_put (cs := #[.string ((rd_T44 y122 x36_1).f0), .string ((rd_T44 y122 x36_1).f1), .int .i64 ((rd_T44 y122 x36_1).f2), .int .i64 0]) ?_ 3 _ rfl; (with_reducible repeat (first | refine blk_drewN ?_ _ | refine blk_drew ?_ | refine blk_alloc ?_ _)); refine blk_put (cs := #[.string ((rd_T44 y122 x36_1).f0), .string ((rd_T44 y122 x36_1).f1), .int .i64 0, .int .i64 0]) ?_ 2 _ rfl; (with_reducible repeat (first | refine blk_drewN ?_ _ | refine blk_drew ?_ | refine blk_alloc ?_ _)); refine blk_put (cs := #[.string ((rd_T44 y122 x36_1).f0), .string (⟨#[]⟩ : ByteArray), .int .i64 0, .int .i64 0]) ?_ 1 _ rfl; (with_reducible repeat (first | refine blk_drewN ?_ _ | refine blk_drew ?_ | refine blk_alloc ?_ _)); refine blk_put (cs := #[.string (⟨#[]⟩ : ByteArray), .string (⟨#[]⟩ : ByteArray), .int .i64 0, .int .i64 0]) ?_ 0 _ rfl; (with_reducible repeat (first | refine blk_drewN ?_ _ | refine blk_drew ?_ | refine blk_alloc ?_ _)); exact BK135.out) hb); have n2_ := Aside0.mk (below_step (by repeat (first | (with_reducible first | exact HB.out | apply below_alloc | apply pw_below_drewN | apply below_drew1 | refine below_set ?_ GE135.out) | exact HB.out)) hb); clear HO_34; clear BK135; clear HB; have HO_34 := n0_; have BK135 := n1_; have HB := n2_; clear n0_ n1_ n2_; (try clear hb); (try clear hb2); (try clear hk); (try clear hi); have hcz25_0 : w24.cell? ⟨gb135, 0, none⟩ = some (.string ((rd_T44 y122 x36_1).f0)) := (blk_cell BK135.out 0).trans rfl; have hcz25_1 : w24.cell? ⟨gb135, 1, none⟩ = some (.string ((rd_T44 y122 x36_1).f1)) := (blk_cell BK135.out 1).trans rfl; have hcz25_2 : w24.cell? ⟨gb135, 2, none⟩ = some (.int .i64 ((rd_T44 y122 x36_1).f2)) := (blk_cell BK135.out 2).trans rfl; have hcz25_3 : w24.cell? ⟨gb135, 3, none⟩ = some (.int .i64 ((rd_T44 y122 x36_1).f3)) := (blk_cell BK135.out 3).trans rfl; have hfz25_0 := blk_frozen BK135.out 0; have hfz25_1 := blk_frozen BK135.out 1; have hfz25_2 := blk_frozen BK135.out 2; have hfz25_3 := blk_frozen BK135.out 3) | ((with_reducible refine gate_callee (f := 26) rfl ?_); refine goesL_ (some 59) rfl rfl Try.func26 (by kernel_rfl) rfl #[.string ((rd_T44 y122 x36_1).f0), .string ((rd_T44 y122 x36_1).f1), .int .i64 ((rd_T44 y122 x36_1).f2)] rfl (by (try simp only [List.map_toArray, List.map_cons, List.map_nil]); first | done | rfl | (simp only [List.length_drop, List.length_take]; rfl)) ?_; (with_reducible refine (derive_Key.calls ((rd_T44 y122 x36_1).f0) ((rd_T44 y122 x36_1).f1) ((rd_T44 y122 x36_1).f2) t138 t139 t140 _ A19.out).mono ?_); rintro e w26 ⟨rfl, hb⟩; refine ⟨_, rfl, ?_⟩; have n0_ := Aside0.mk (Kd.R_below (by (with_reducible repeat (first | apply Kd.R_alloc | apply Kd.R_drewN | apply Kd.R_drew)); exact HO_34.out) hb); have n1_ := Aside0.mk (blk_below (g := gb135) (o := .cells #[.string ((rd_T44 y122 x36_1).f0), .string ((rd_T44 y122 x36_1).f1), .int .i64 ((rd_T44 y122 x36_1).f2), .int .i64 ((rd_T44 y122 x36_1).f3)] 44 (0, 0)) (by (with_reducible repeat (first | refine blk_drewN ?_ _ | refine blk_drew ?_ | refine blk_alloc ?_ _)); exact BK135.out) hb); have n2_ := Aside0.mk (below_step (by repeat (first | (with_reducible first | exact HB.out | apply below_alloc | apply pw_below_drewN | apply below_drew1 | refine below_set ?_ GE135.out) | exact HB.out)) hb); clear HO_34; clear BK135; clear HB; have HO_34 := n0_; have BK135 := n1_; have HB := n2_; clear n0_ n1_ n2_; (try clear hb); (try clear hb2); (try clear hk); (try clear hi); have hcz27_0 : w26.cell? ⟨gb135, 0, none⟩ = some (.string ((rd_T44 y122 x36_1).f0)) := (blk_cell BK135.out 0).trans rfl; have hcz27_1 : w26.cell? ⟨gb135, 1, none⟩ = some (.string ((rd_T44 y122 x36_1).f1)) := (blk_cell BK135.out 1).trans rfl; have hcz27_2 : w26.cell? ⟨gb135, 2, none⟩ = some (.int .i64 ((rd_T44 y122 x36_1).f2)) := (blk_cell BK135.out 2).trans rfl; have hcz27_3 : w26.cell? ⟨gb135, 3, none⟩ = some (.int .i64 ((rd_T44 y122 x36_1).f3)) := (blk_cell BK135.out 3).trans rfl; have hfz27_0 := blk_frozen BK135.out 0; have hfz27_1 := blk_frozen BK135.out 1; have hfz27_2 := blk_frozen BK135.out 2; have hfz27_3 := blk_frozen BK135.out 3))
                        go_roundg k1
                        case measure => have := HK1.out; omega
                        case rel => exact ⟨(wrap64 (x36_1 + 1)), (by first | rfl | (simp; done) | (simp [*]; done)), H', ⟨by have := HK1.out; omega⟩, ⟨by (with_reducible repeat (first | apply Kd.R_alloc | apply Kd.R_drewN | apply Kd.R_drew)); exact Kd.R_mono HO_34.out (fun _ hk => trivial)⟩, ⟨by repeat (first | (with_reducible first | exact HB.out | apply below_alloc | apply pw_below_drewN | apply below_drew1 | refine below_set ?_ GE135.out) | exact HB.out)⟩⟩
                    · rw [if_neg c20] at H
                      have c20b0 : (t137 == 1) = false := beq_eq_false_iff_ne.mpr c20
                      have c20b1 : (t137 != 1) = true := bne_iff_ne.mpr c20
                      exact absurd ((Option.some.inj H).trans hr_.out) Bool.false_ne_true
                  · rw [if_neg c17] at H
                    exact absurd H (by simp)
                · rw [if_neg c16] at H
                  exact absurd H (by simp)
              · rw [if_neg c15] at H
                have c15b0 : decide (x36_1 < (y122.length : Int)) = false := decide_eq_false c15
                clear c15
                by_cases c28 : 64 ≤ 281474976710656
                · rw [if_pos c28] at H
                  have c28b0 := eq_true c28
                  have c28b1 : decide (64 ≤ 281474976710656) = true := decide_eq_true c28
                  clear c28
                  obtain ⟨y125, hy125⟩ : ∃ y_ : List Int, y_ = (List.replicate 64 0) := ⟨_, rfl⟩
                  replace H : ((derive_Key.f (strOfNums y125) (strOfNums y116) 64).bind fun bt128 => ((Given.derive_Stretch.f (⟨#[]⟩ : ByteArray) (strOfNums y116) 1 2147483647).bind fun bt131 => (if bt128.2.2 = 0 then (if bt131.2 = 0 then ((hamperlaw08_awake.f).bind fun t133 => (some t133)) else (some false)) else (some false)))) = some r := by first | (rw [hy125]; with_reducible exact H) | (have H2_ := (Option.bind_some _ _).symm.trans H; rw [hy125]; with_reducible exact H2_) | (have H2_ := (Option.bind_some _ _).symm.trans H; with_reducible exact H2_) | with_reducible exact H | (rw [hy125]; exact H) | exact H
                  have Ny125 := Aside0.mk hy125
                  clear hy125
                  replace H := Option.bind_eq_some_iff.mp H
                  obtain ⟨⟨t128, t129, t130⟩, A290, H⟩ := H
                  replace H : ((Given.derive_Stretch.f (⟨#[]⟩ : ByteArray) (strOfNums y116) 1 2147483647).bind fun bt131 => (if t130 = 0 then (if bt131.2 = 0 then ((hamperlaw08_awake.f).bind fun t133 => (some t133)) else (some false)) else (some false))) = some r := H
                  have A29 := Aside0.mk A290
                  clear A290
                  replace H := Option.bind_eq_some_iff.mp H
                  obtain ⟨⟨t131, t132⟩, A300, H⟩ := H
                  replace H : (if t130 = 0 then (if t132 = 0 then ((hamperlaw08_awake.f).bind fun t133 => (some t133)) else (some false)) else (some false)) = some r := H
                  have A30 := Aside0.mk A300
                  clear A300
                  by_cases c31 : t130 = 0
                  · rw [if_pos c31] at H
                    have c31b0 : (t130 == 0) = true := beq_iff_eq.mpr c31
                    have c31b1 : (t130 != 0) = false := bne_eq_false_iff_eq.mpr c31
                    clear c31
                    by_cases c32 : t132 = 0
                    · rw [if_pos c32] at H
                      have c32b0 : (t132 == 0) = true := beq_iff_eq.mpr c32
                      have c32b1 : (t132 != 0) = false := bne_eq_false_iff_eq.mpr c32
                      clear c32
                      replace H := Option.bind_eq_some_iff.mp H
                      obtain ⟨t133, A330, H⟩ := H
                      replace H : (some t133) = some r := H
                      have A33 := Aside0.mk A330
                      clear A330
                      obtain rfl := Option.some.inj H
                      go_wp2_with (first | ((with_reducible refine gate_dst (N := 75) rfl ?_); refine Kd.R_make (Kd.int .u8) _ 5 rfl (N := 75) rfl 37 _ _ rfl 64 rfl rfl Try.underlying37 (.int .u8 0) 1 info5 rfl (by decide) (by omega) 0 (ok := fun _ => True) (okp := fun _ => True) rfl (fun _ hk => hk) trivial (by omega) (by omega) (Below.refl _ _) (Nat.le_refl _) ?_; intro v126 w34 ho35 hb hg_ hnew_; clear hg_ hnew_; (first | rw [← Ny125.out] at ho35 | (simp only [Int.reduceToNat] at ho35; rw [← Ny125.out] at ho35)); have n0_ := Aside0.mk (Kd.R_below (by (with_reducible repeat (first | apply Kd.R_alloc | apply Kd.R_drewN | apply Kd.R_drew)); exact HO_34.out) hb); have n1_ := Aside0.mk (Kd.R_lower ho35 (below_size (by repeat (first | (with_reducible first | exact HB.out | apply below_alloc | apply pw_below_drewN | apply below_drew1) | exact HB.out)))); have n2_ := Aside0.mk (below_step (by repeat (first | (with_reducible first | exact HB.out | apply below_alloc | apply pw_below_drewN | apply below_drew1) | exact HB.out)) hb); clear HO_34; clear HB; have HO_34 := n0_; have HO127 := n1_; have HB := n2_; clear n0_ n1_ n2_; clear hb ho35; have hcv36 := own_string (P := Try.prog) Try.underlying37 Try.underlying5 Try.underlying9 (Kd.own_of_R HO127.out)) | ((with_reducible refine gate_callee (f := 26) rfl ?_); refine goesL_ (some 78) rfl rfl Try.func26 (by kernel_rfl) rfl #[.string (strOfNums y125), .string (strOfNums y116), .int .i64 64] rfl (by (try simp only [List.map_toArray, List.map_cons, List.map_nil]); first | done | rfl | (simp only [List.length_drop, List.length_take]; rfl)) ?_; (with_reducible refine (derive_Key.calls (strOfNums y125) (strOfNums y116) 64 t128 t129 t130 _ A29.out).mono ?_); rintro e w37 ⟨rfl, hb⟩; refine ⟨_, rfl, ?_⟩; have n0_ := Aside0.mk (Kd.R_below (by (with_reducible repeat (first | apply Kd.R_alloc | apply Kd.R_drewN | apply Kd.R_drew)); exact HO_34.out) hb); have n1_ := Aside0.mk (Kd.R_below (by (with_reducible repeat (first | apply Kd.R_alloc | apply Kd.R_drewN | apply Kd.R_drew)); exact HO127.out) hb); have n2_ := Aside0.mk (below_step (by repeat (first | (with_reducible first | exact HB.out | apply below_alloc | apply pw_below_drewN | apply below_drew1) | exact HB.out)) hb); clear HO_34; clear HO127; clear HB; have HO_34 := n0_; have HO127 := n1_; have HB := n2_; clear n0_ n1_ n2_; (try clear hb); (try clear hb2); (try clear hk); (try clear hi)) | ((with_reducible refine gate_callee (f := 28) rfl ?_); refine goesL_ (some 84) rfl rfl Try.func28 (by kernel_rfl) rfl #[.string (⟨#[]⟩ : ByteArray), .string (strOfNums y116), .int .i64 1, .int .i64 2147483647] rfl (by (try simp only [List.map_toArray, List.map_cons, List.map_nil]); first | done | rfl | (simp only [List.length_drop, List.length_take]; rfl)) ?_; (with_reducible refine (Given.derive_Stretch.calls (⟨#[]⟩ : ByteArray) (strOfNums y116) 1 2147483647 t131 t132 _ A30.out).mono ?_); rintro e w38 ⟨rfl, hb⟩; refine ⟨_, rfl, ?_⟩; have n0_ := Aside0.mk (Kd.R_below (by (with_reducible repeat (first | apply Kd.R_alloc | apply Kd.R_drewN | apply Kd.R_drew)); exact HO_34.out) hb); have n1_ := Aside0.mk (Kd.R_below (by (with_reducible repeat (first | apply Kd.R_alloc | apply Kd.R_drewN | apply Kd.R_drew)); exact HO127.out) hb); have n2_ := Aside0.mk (below_step (by repeat (first | (with_reducible first | exact HB.out | apply below_alloc | apply pw_below_drewN | apply below_drew1) | exact HB.out)) hb); clear HO_34; clear HO127; clear HB; have HO_34 := n0_; have HO127 := n1_; have HB := n2_; clear n0_ n1_ n2_; (try clear hb); (try clear hb2); (try clear hk); (try clear hi)) | (go_at_call 25; (with_reducible refine (hamperlaw08_awake.calls  t133 _ A33.out).mono ?_); rintro e w39 ⟨rfl, hb⟩; have n0_ := Aside0.mk (Kd.R_below (by (with_reducible repeat (first | apply Kd.R_alloc | apply Kd.R_drewN | apply Kd.R_drew)); exact HO_34.out) hb); have n1_ := Aside0.mk (Kd.R_below (by (with_reducible repeat (first | apply Kd.R_alloc | apply Kd.R_drewN | apply Kd.R_drew)); exact HO127.out) hb); have n2_ := Aside0.mk (below_step (by repeat (first | (with_reducible first | exact HB.out | apply below_alloc | apply pw_below_drewN | apply below_drew1) | exact HB.out)) hb); clear HO_34; clear HO127; clear HB; have HO_34 := n0_; have HO127 := n1_; have HB := n2_; clear n0_ n1_ n2_; (try clear hb); (try clear hb2); (try clear hk); (try clear hi)))
                      go_ret
                      exact ⟨by first | rfl | (simp [errW_none, errW_some] <;> rfl) | (simp [*, errW_none, errW_some] <;> rfl), by repeat (first | (with_reducible first | exact HB.out | apply below_alloc | apply pw_below_drewN | apply below_drew1) | exact HB.out)⟩
                    · rw [if_neg c32] at H
                      have c32b0 : (t132 == 0) = false := beq_eq_false_iff_ne.mpr c32
                      have c32b1 : (t132 != 0) = true := bne_iff_ne.mpr c32
                      exact absurd ((Option.some.inj H).trans hr_.out) Bool.false_ne_true
                  · rw [if_neg c31] at H
                    have c31b0 : (t130 == 0) = false := beq_eq_false_iff_ne.mpr c31
                    have c31b1 : (t130 != 0) = true := bne_iff_ne.mpr c31
                    exact absurd ((Option.some.inj H).trans hr_.out) Bool.false_ne_true
                · rw [if_neg c28] at H
                  exact absurd H (by simp)
        · rw [if_neg c4] at H
          exact absurd H (by simp)
      · rw [if_neg c3] at H
        exact absurd H (by simp)
    · rw [if_neg c2] at H
      exact absurd H (by simp)
  · rw [if_neg c1] at H
    exact absurd H (by simp)

/-- THE ONE PURE STATEMENT of hamperlaw08_DeriveNames: yours. -/
def hamperlaw08_DeriveNames.Pure : Prop := ∃ k, hamperlaw08_DeriveNames.f k  = some true
theorem hamperlaw08_DeriveNames.walk (P : hamperlaw08_DeriveNames.Pure)  (w : World)  :
    Calls Try.prog 10 #[] w fun e w' => e = .returned (.bool true) ∧ Below w.heap.size w w' := by
  obtain ⟨k, h⟩ := P  
  refine (hamperlaw08_DeriveNames.calls k  true w h ⟨rfl⟩).mono ?_
  rintro e w' ⟨rfl, hd⟩
  exact ⟨rfl, hd⟩

end Go.Proofs.Ytbafbpfpnfnikaa.PDeriveNames
