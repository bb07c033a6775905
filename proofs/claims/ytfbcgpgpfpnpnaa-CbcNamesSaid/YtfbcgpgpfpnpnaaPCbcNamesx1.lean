/- The machine side of a law: printed by a program (wip/gprint.py over the kit's print), with the contracts of some functions proved by hand. Conditions: as each theorem names them. -/
import Derived.Test.YtfbcgpgpfpnpnaaPCbcNamesx0
namespace Go.Proofs.Ytfbcgpgpfpnpnaa.PCbcNames
open Go.RowKit Go.Proofs.YtfbcgpgpfpnpnaaW.PrintWords Go.Proofs.YtfbcgpgpfpnpnaaW.PrintLast Go.Proofs.YtfbcgpgpfpnpnaaW.PrintMore
attribute [local go_sem] max2_int min2_int max_two min_two max_three min_three max_four min_four   -- for this text's walks alone
set_option linter.unusedVariables false
set_option linter.unusedSimpArgs false

-- by hand: function 21 (hamperlaw10_awake)

-- by hand: function 22 (cbc_Seal)

-- by hand: function 24 (cbc_Open)

/-! ### hamperlaw10_CbcNames: function 9 -/
def hamperlaw10_CbcNames.f  : Option (Bool) := if 32 ≤ 281474976710656 then ((some (List.replicate 32 0 : List Int)).bind fun y101 => (if 16 ≤ 281474976710656 then ((some (List.replicate 16 0 : List Int)).bind fun y104 => (if 1 ≤ ((strOfNums y101).size : Int) then ((Given.cbc_Seal.f ((strOfNums y101).extract 1 (strOfNums y101).size) (strOfNums y104) (⟨#[]⟩ : ByteArray)).bind fun bt107 => (if 1 ≤ ((strOfNums y104).size : Int) then ((Given.cbc_Seal.f (strOfNums y101) ((strOfNums y104).extract 1 (strOfNums y104).size) (⟨#[]⟩ : ByteArray)).bind fun bt109 => (if (strOfNums y101).size + 1 ≤ 9223372036854775807 then ((Given.cbc_Open.f ((strOfNums y101) ++ (⟨#[120]⟩ : ByteArray)) (strOfNums y104) (strOfNums y104)).bind fun bt111 => (if (strOfNums y104).size + 1 ≤ 9223372036854775807 then ((Given.cbc_Open.f (strOfNums y101) ((strOfNums y104) ++ (⟨#[120]⟩ : ByteArray)) (strOfNums y104)).bind fun bt113 => ((Given.cbc_Open.f (strOfNums y101) (strOfNums y104) (⟨#[]⟩ : ByteArray)).bind fun bt115 => ((Given.cbc_Open.f (strOfNums y101) (strOfNums y104) ((strOfNums y104).extract 1 (strOfNums y104).size)).bind fun bt117 => (if 1048577 ≤ 281474976710656 then ((Given.cbc_Seal.f (strOfNums y101) (strOfNums y104) (strOfNums (List.replicate 1048577 0))).bind fun bt122 => (if bt107.2 = 1 then (if bt109.2 = 1 then (if bt111.2 = 1 then (if bt113.2 = 1 then (if bt115.2 = 4 then (if bt117.2 = 4 then (if bt122.2 = 40 then ((Given.law10_awake.f).bind fun t124 => (some t124)) else (some false)) else (some false)) else (some false)) else (some false)) else (some false)) else (some false)) else (some false))) else (none))))) else (none))) else (none))) else (none))) else (none))) else (none))) else (none)
set_option maxHeartbeats 8000000 in
set_option maxRecDepth 100000 in
theorem hamperlaw10_CbcNames.calls  (r : Bool) (w : World) (h : hamperlaw10_CbcNames.f  = some r) (hr_ : Aside0 (r = true)) :
    Calls Try.prog 9 #[] w fun e w' => e = .returned (.bool r) ∧ Below w.heap.size w w' := by
  have HB := Aside0.mk (Below.refl w.heap.size w)
  have H : (if 32 ≤ 281474976710656 then ((some (List.replicate 32 0 : List Int)).bind fun y101 => (if 16 ≤ 281474976710656 then ((some (List.replicate 16 0 : List Int)).bind fun y104 => (if 1 ≤ ((strOfNums y101).size : Int) then ((Given.cbc_Seal.f ((strOfNums y101).extract 1 (strOfNums y101).size) (strOfNums y104) (⟨#[]⟩ : ByteArray)).bind fun bt107 => (if 1 ≤ ((strOfNums y104).size : Int) then ((Given.cbc_Seal.f (strOfNums y101) ((strOfNums y104).extract 1 (strOfNums y104).size) (⟨#[]⟩ : ByteArray)).bind fun bt109 => (if (strOfNums y101).size + 1 ≤ 9223372036854775807 then ((Given.cbc_Open.f ((strOfNums y101) ++ (⟨#[120]⟩ : ByteArray)) (strOfNums y104) (strOfNums y104)).bind fun bt111 => (if (strOfNums y104).size + 1 ≤ 9223372036854775807 then ((Given.cbc_Open.f (strOfNums y101) ((strOfNums y104) ++ (⟨#[120]⟩ : ByteArray)) (strOfNums y104)).bind fun bt113 => ((Given.cbc_Open.f (strOfNums y101) (strOfNums y104) (⟨#[]⟩ : ByteArray)).bind fun bt115 => ((Given.cbc_Open.f (strOfNums y101) (strOfNums y104) ((strOfNums y104).extract 1 (strOfNums y104).size)).bind fun bt117 => (if 1048577 ≤ 281474976710656 then ((Given.cbc_Seal.f (strOfNums y101) (strOfNums y104) (strOfNums (List.replicate 1048577 0))).bind fun bt122 => (if bt107.2 = 1 then (if bt109.2 = 1 then (if bt111.2 = 1 then (if bt113.2 = 1 then (if bt115.2 = 4 then (if bt117.2 = 4 then (if bt122.2 = 40 then ((Given.law10_awake.f).bind fun t124 => (some t124)) else (some false)) else (some false)) else (some false)) else (some false)) else (some false)) else (some false)) else (some false))) else (none))))) else (none))) else (none))) else (none))) else (none))) else (none))) else (none)) = some r := h
  clear h
  by_cases c1 : 32 ≤ 281474976710656
  · rw [if_pos c1] at H
    have c1b0 := eq_true c1
    have c1b1 : decide (32 ≤ 281474976710656) = true := decide_eq_true c1
    clear c1
    obtain ⟨y101, hy101⟩ : ∃ y_ : List Int, y_ = (List.replicate 32 0) := ⟨_, rfl⟩
    replace H : (if 16 ≤ 281474976710656 then ((some (List.replicate 16 0 : List Int)).bind fun y104 => (if 1 ≤ ((strOfNums y101).size : Int) then ((Given.cbc_Seal.f ((strOfNums y101).extract 1 (strOfNums y101).size) (strOfNums y104) (⟨#[]⟩ : ByteArray)).bind fun bt107 => (if 1 ≤ ((strOfNums y104).size : Int) then ((Given.cbc_Seal.f (strOfNums y101) ((strOfNums y104).extract 1 (strOfNums y104).size) (⟨#[]⟩ : ByteArray)).bind fun bt109 => (if (strOfNums y101).size + 1 ≤ 9223372036854775807 then ((Given.cbc_Open.f ((strOfNums y101) ++ (⟨#[120]⟩ : ByteArray)) (strOfNums y104) (strOfNums y104)).bind fun bt111 => (if (strOfNums y104).size + 1 ≤ 9223372036854775807 then ((Given.cbc_Open.f (strOfNums y101) ((strOfNums y104) ++ (⟨#[120]⟩ : ByteArray)) (strOfNums y104)).bind fun bt113 => ((Given.cbc_Open.f (strOfNums y101) (strOfNums y104) (⟨#[]⟩ : ByteArray)).bind fun bt115 => ((Given.cbc_Open.f (strOfNums y101) (strOfNums y104) ((strOfNums y104).extract 1 (strOfNums y104).size)).bind fun bt117 => (if 1048577 ≤ 281474976710656 then ((Given.cbc_Seal.f (strOfNums y101) (strOfNums y104) (strOfNums (List.replicate 1048577 0))).bind fun bt122 => (if bt107.2 = 1 then (if bt109.2 = 1 then (if bt111.2 = 1 then (if bt113.2 = 1 then (if bt115.2 = 4 then (if bt117.2 = 4 then (if bt122.2 = 40 then ((Given.law10_awake.f).bind fun t124 => (some t124)) else (some false)) else (some false)) else (some false)) else (some false)) else (some false)) else (some false)) else (some false))) else (none))))) else (none))) else (none))) else (none))) else (none))) else (none)) = some r := by first | (rw [hy101]; with_reducible exact H) | (have H2_ := (Option.bind_some _ _).symm.trans H; rw [hy101]; with_reducible exact H2_) | (have H2_ := (Option.bind_some _ _).symm.trans H; with_reducible exact H2_) | with_reducible exact H | (rw [hy101]; exact H) | exact H
    have Ny101 := Aside0.mk hy101
    clear hy101
    by_cases c2 : 16 ≤ 281474976710656
    · rw [if_pos c2] at H
      have c2b0 := eq_true c2
      have c2b1 : decide (16 ≤ 281474976710656) = true := decide_eq_true c2
      clear c2
      obtain ⟨y104, hy104⟩ : ∃ y_ : List Int, y_ = (List.replicate 16 0) := ⟨_, rfl⟩
      replace H : (if 1 ≤ ((strOfNums y101).size : Int) then ((Given.cbc_Seal.f ((strOfNums y101).extract 1 (strOfNums y101).size) (strOfNums y104) (⟨#[]⟩ : ByteArray)).bind fun bt107 => (if 1 ≤ ((strOfNums y104).size : Int) then ((Given.cbc_Seal.f (strOfNums y101) ((strOfNums y104).extract 1 (strOfNums y104).size) (⟨#[]⟩ : ByteArray)).bind fun bt109 => (if (strOfNums y101).size + 1 ≤ 9223372036854775807 then ((Given.cbc_Open.f ((strOfNums y101) ++ (⟨#[120]⟩ : ByteArray)) (strOfNums y104) (strOfNums y104)).bind fun bt111 => (if (strOfNums y104).size + 1 ≤ 9223372036854775807 then ((Given.cbc_Open.f (strOfNums y101) ((strOfNums y104) ++ (⟨#[120]⟩ : ByteArray)) (strOfNums y104)).bind fun bt113 => ((Given.cbc_Open.f (strOfNums y101) (strOfNums y104) (⟨#[]⟩ : ByteArray)).bind fun bt115 => ((Given.cbc_Open.f (strOfNums y101) (strOfNums y104) ((strOfNums y104).extract 1 (strOfNums y104).size)).bind fun bt117 => (if 1048577 ≤ 281474976710656 then ((Given.cbc_Seal.f (strOfNums y101) (strOfNums y104) (strOfNums (List.replicate 1048577 0))).bind fun bt122 => (if bt107.2 = 1 then (if bt109.2 = 1 then (if bt111.2 = 1 then (if bt113.2 = 1 then (if bt115.2 = 4 then (if bt117.2 = 4 then (if bt122.2 = 40 then ((Given.law10_awake.f).bind fun t124 => (some t124)) else (some false)) else (some false)) else (some false)) else (some false)) else (some false)) else (some false)) else (some false))) else (none))))) else (none))) else (none))) else (none))) else (none)) = some r := by first | (rw [hy104]; with_reducible exact H) | (have H2_ := (Option.bind_some _ _).symm.trans H; rw [hy104]; with_reducible exact H2_) | (have H2_ := (Option.bind_some _ _).symm.trans H; with_reducible exact H2_) | with_reducible exact H | (rw [hy104]; exact H) | exact H
      have Ny104 := Aside0.mk hy104
      clear hy104
      by_cases c3 : 1 ≤ ((strOfNums y101).size : Int)
      · rw [if_pos c3] at H
        have c3b0 := eq_true c3
        have c3b1 : decide (1 ≤ ((strOfNums y101).size : Int)) = true := decide_eq_true c3
        clear c3
        replace H := Option.bind_eq_some_iff.mp H
        obtain ⟨⟨t107, t108⟩, A40, H⟩ := H
        replace H : (if 1 ≤ ((strOfNums y104).size : Int) then ((Given.cbc_Seal.f (strOfNums y101) ((strOfNums y104).extract 1 (strOfNums y104).size) (⟨#[]⟩ : ByteArray)).bind fun bt109 => (if (strOfNums y101).size + 1 ≤ 9223372036854775807 then ((Given.cbc_Open.f ((strOfNums y101) ++ (⟨#[120]⟩ : ByteArray)) (strOfNums y104) (strOfNums y104)).bind fun bt111 => (if (strOfNums y104).size + 1 ≤ 9223372036854775807 then ((Given.cbc_Open.f (strOfNums y101) ((strOfNums y104) ++ (⟨#[120]⟩ : ByteArray)) (strOfNums y104)).bind fun bt113 => ((Given.cbc_Open.f (strOfNums y101) (strOfNums y104) (⟨#[]⟩ : ByteArray)).bind fun bt115 => ((Given.cbc_Open.f (strOfNums y101) (strOfNums y104) ((strOfNums y104).extract 1 (strOfNums y104).size)).bind fun bt117 => (if 1048577 ≤ 281474976710656 then ((Given.cbc_Seal.f (strOfNums y101) (strOfNums y104) (strOfNums (List.replicate 1048577 0))).bind fun bt122 => (if t108 = 1 then (if bt109.2 = 1 then (if bt111.2 = 1 then (if bt113.2 = 1 then (if bt115.2 = 4 then (if bt117.2 = 4 then (if bt122.2 = 40 then ((Given.law10_awake.f).bind fun t124 => (some t124)) else (some false)) else (some false)) else (some false)) else (some false)) else (some false)) else (some false)) else (some false))) else (none))))) else (none))) else (none))) else (none)) = some r := H
        have A4 := Aside0.mk A40
        clear A40
        by_cases c5 : 1 ≤ ((strOfNums y104).size : Int)
        · rw [if_pos c5] at H
          have c5b0 := eq_true c5
          have c5b1 : decide (1 ≤ ((strOfNums y104).size : Int)) = true := decide_eq_true c5
          clear c5
          replace H := Option.bind_eq_some_iff.mp H
          obtain ⟨⟨t109, t110⟩, A60, H⟩ := H
          replace H : (if (strOfNums y101).size + 1 ≤ 9223372036854775807 then ((Given.cbc_Open.f ((strOfNums y101) ++ (⟨#[120]⟩ : ByteArray)) (strOfNums y104) (strOfNums y104)).bind fun bt111 => (if (strOfNums y104).size + 1 ≤ 9223372036854775807 then ((Given.cbc_Open.f (strOfNums y101) ((strOfNums y104) ++ (⟨#[120]⟩ : ByteArray)) (strOfNums y104)).bind fun bt113 => ((Given.cbc_Open.f (strOfNums y101) (strOfNums y104) (⟨#[]⟩ : ByteArray)).bind fun bt115 => ((Given.cbc_Open.f (strOfNums y101) (strOfNums y104) ((strOfNums y104).extract 1 (strOfNums y104).size)).bind fun bt117 => (if 1048577 ≤ 281474976710656 then ((Given.cbc_Seal.f (strOfNums y101) (strOfNums y104) (strOfNums (List.replicate 1048577 0))).bind fun bt122 => (if t108 = 1 then (if t110 = 1 then (if bt111.2 = 1 then (if bt113.2 = 1 then (if bt115.2 = 4 then (if bt117.2 = 4 then (if bt122.2 = 40 then ((Given.law10_awake.f).bind fun t124 => (some t124)) else (some false)) else (some false)) else (some false)) else (some false)) else (some false)) else (some false)) else (some false))) else (none))))) else (none))) else (none)) = some r := H
          have A6 := Aside0.mk A60
          clear A60
          by_cases c7 : (strOfNums y101).size + 1 ≤ 9223372036854775807
          · rw [if_pos c7] at H
            have c7b0 := eq_true c7
            have c7b1 : decide ((strOfNums y101).size + 1 ≤ 9223372036854775807) = true := decide_eq_true c7
            try have c7b2 : (9223372036854775807 < (strOfNums y101).size + 1) = False := eq_false (Nat.not_lt.2 c7)
            replace H := Option.bind_eq_some_iff.mp H
            obtain ⟨⟨t111, t112⟩, A80, H⟩ := H
            replace H : (if (strOfNums y104).size + 1 ≤ 9223372036854775807 then ((Given.cbc_Open.f (strOfNums y101) ((strOfNums y104) ++ (⟨#[120]⟩ : ByteArray)) (strOfNums y104)).bind fun bt113 => ((Given.cbc_Open.f (strOfNums y101) (strOfNums y104) (⟨#[]⟩ : ByteArray)).bind fun bt115 => ((Given.cbc_Open.f (strOfNums y101) (strOfNums y104) ((strOfNums y104).extract 1 (strOfNums y104).size)).bind fun bt117 => (if 1048577 ≤ 281474976710656 then ((Given.cbc_Seal.f (strOfNums y101) (strOfNums y104) (strOfNums (List.replicate 1048577 0))).bind fun bt122 => (if t108 = 1 then (if t110 = 1 then (if t112 = 1 then (if bt113.2 = 1 then (if bt115.2 = 4 then (if bt117.2 = 4 then (if bt122.2 = 40 then ((Given.law10_awake.f).bind fun t124 => (some t124)) else (some false)) else (some false)) else (some false)) else (some false)) else (some false)) else (some false)) else (some false))) else (none))))) else (none)) = some r := H
            have A8 := Aside0.mk A80
            clear A80
            by_cases c9 : (strOfNums y104).size + 1 ≤ 9223372036854775807
            · rw [if_pos c9] at H
              have c9b0 := eq_true c9
              have c9b1 : decide ((strOfNums y104).size + 1 ≤ 9223372036854775807) = true := decide_eq_true c9
              try have c9b2 : (9223372036854775807 < (strOfNums y104).size + 1) = False := eq_false (Nat.not_lt.2 c9)
              replace H := Option.bind_eq_some_iff.mp H
              obtain ⟨⟨t113, t114⟩, A100, H⟩ := H
              replace H : ((Given.cbc_Open.f (strOfNums y101) (strOfNums y104) (⟨#[]⟩ : ByteArray)).bind fun bt115 => ((Given.cbc_Open.f (strOfNums y101) (strOfNums y104) ((strOfNums y104).extract 1 (strOfNums y104).size)).bind fun bt117 => (if 1048577 ≤ 281474976710656 then ((Given.cbc_Seal.f (strOfNums y101) (strOfNums y104) (strOfNums (List.replicate 1048577 0))).bind fun bt122 => (if t108 = 1 then (if t110 = 1 then (if t112 = 1 then (if t114 = 1 then (if bt115.2 = 4 then (if bt117.2 = 4 then (if bt122.2 = 40 then ((Given.law10_awake.f).bind fun t124 => (some t124)) else (some false)) else (some false)) else (some false)) else (some false)) else (some false)) else (some false)) else (some false))) else (none)))) = some r := H
              have A10 := Aside0.mk A100
              clear A100
              replace H := Option.bind_eq_some_iff.mp H
              obtain ⟨⟨t115, t116⟩, A110, H⟩ := H
              replace H : ((Given.cbc_Open.f (strOfNums y101) (strOfNums y104) ((strOfNums y104).extract 1 (strOfNums y104).size)).bind fun bt117 => (if 1048577 ≤ 281474976710656 then ((Given.cbc_Seal.f (strOfNums y101) (strOfNums y104) (strOfNums (List.replicate 1048577 0))).bind fun bt122 => (if t108 = 1 then (if t110 = 1 then (if t112 = 1 then (if t114 = 1 then (if t116 = 4 then (if bt117.2 = 4 then (if bt122.2 = 40 then ((Given.law10_awake.f).bind fun t124 => (some t124)) else (some false)) else (some false)) else (some false)) else (some false)) else (some false)) else (some false)) else (some false))) else (none))) = some r := H
              have A11 := Aside0.mk A110
              clear A110
              have c12b0 := eq_true (of_decide_eq_true (by first | (with_reducible assumption) | assumption) : 1 ≤ ((strOfNums y104).size : Int))
              replace H := Option.bind_eq_some_iff.mp H
              obtain ⟨⟨t117, t118⟩, A130, H⟩ := H
              replace H : (if 1048577 ≤ 281474976710656 then ((Given.cbc_Seal.f (strOfNums y101) (strOfNums y104) (strOfNums (List.replicate 1048577 0))).bind fun bt122 => (if t108 = 1 then (if t110 = 1 then (if t112 = 1 then (if t114 = 1 then (if t116 = 4 then (if t118 = 4 then (if bt122.2 = 40 then ((Given.law10_awake.f).bind fun t124 => (some t124)) else (some false)) else (some false)) else (some false)) else (some false)) else (some false)) else (some false)) else (some false))) else (none)) = some r := H
              have A13 := Aside0.mk A130
              clear A130
              by_cases c14 : 1048577 ≤ 281474976710656
              · rw [if_pos c14] at H
                have c14b0 := eq_true c14
                have c14b1 : decide (1048577 ≤ 281474976710656) = true := decide_eq_true c14
                clear c14
                obtain ⟨y119, hy119⟩ : ∃ y_ : List Int, y_ = (List.replicate 1048577 0) := ⟨_, rfl⟩
                replace H : ((Given.cbc_Seal.f (strOfNums y101) (strOfNums y104) (strOfNums y119)).bind fun bt122 => (if t108 = 1 then (if t110 = 1 then (if t112 = 1 then (if t114 = 1 then (if t116 = 4 then (if t118 = 4 then (if bt122.2 = 40 then ((Given.law10_awake.f).bind fun t124 => (some t124)) else (some false)) else (some false)) else (some false)) else (some false)) else (some false)) else (some false)) else (some false))) = some r := by first | (rw [hy119]; with_reducible exact H) | (have H2_ := (Option.bind_some _ _).symm.trans H; rw [hy119]; with_reducible exact H2_) | (have H2_ := (Option.bind_some _ _).symm.trans H; with_reducible exact H2_) | with_reducible exact H | (rw [hy119]; exact H) | exact H
                have Ny119 := Aside0.mk hy119
                clear hy119
                replace H := Option.bind_eq_some_iff.mp H
                obtain ⟨⟨t122, t123⟩, A150, H⟩ := H
                replace H : (if t108 = 1 then (if t110 = 1 then (if t112 = 1 then (if t114 = 1 then (if t116 = 4 then (if t118 = 4 then (if t123 = 40 then ((Given.law10_awake.f).bind fun t124 => (some t124)) else (some false)) else (some false)) else (some false)) else (some false)) else (some false)) else (some false)) else (some false)) = some r := H
                have A15 := Aside0.mk A150
                clear A150
                by_cases c16 : t108 = 1
                · rw [if_pos c16] at H
                  have c16b0 : (t108 == 1) = true := beq_iff_eq.mpr c16
                  have c16b1 : (t108 != 1) = false := bne_eq_false_iff_eq.mpr c16
                  clear c16
                  by_cases c17 : t110 = 1
                  · rw [if_pos c17] at H
                    have c17b0 : (t110 == 1) = true := beq_iff_eq.mpr c17
                    have c17b1 : (t110 != 1) = false := bne_eq_false_iff_eq.mpr c17
                    clear c17
                    by_cases c18 : t112 = 1
                    · rw [if_pos c18] at H
                      have c18b0 : (t112 == 1) = true := beq_iff_eq.mpr c18
                      have c18b1 : (t112 != 1) = false := bne_eq_false_iff_eq.mpr c18
                      clear c18
                      by_cases c19 : t114 = 1
                      · rw [if_pos c19] at H
                        have c19b0 : (t114 == 1) = true := beq_iff_eq.mpr c19
                        have c19b1 : (t114 != 1) = false := bne_eq_false_iff_eq.mpr c19
                        clear c19
                        by_cases c20 : t116 = 4
                        · rw [if_pos c20] at H
                          have c20b0 : (t116 == 4) = true := beq_iff_eq.mpr c20
                          have c20b1 : (t116 != 4) = false := bne_eq_false_iff_eq.mpr c20
                          clear c20
                          by_cases c21 : t118 = 4
                          · rw [if_pos c21] at H
                            have c21b0 : (t118 == 4) = true := beq_iff_eq.mpr c21
                            have c21b1 : (t118 != 4) = false := bne_eq_false_iff_eq.mpr c21
                            clear c21
                            by_cases c22 : t123 = 40
                            · rw [if_pos c22] at H
                              have c22b0 : (t123 == 40) = true := beq_iff_eq.mpr c22
                              have c22b1 : (t123 != 40) = false := bne_eq_false_iff_eq.mpr c22
                              clear c22
                              replace H := Option.bind_eq_some_iff.mp H
                              obtain ⟨t124, A230, H⟩ := H
                              replace H : (some t124) = some r := H
                              have A23 := Aside0.mk A230
                              clear A230
                              obtain rfl := Option.some.inj H
                              go_enter Try.func9, Try.ntmps9
                              try go_wp2
                              have n0_ := Aside0.mk (below_drew1 HB.out)
                              clear HB
                              have HB := n0_
                              clear n0_
                              refine start_ (n := 6) (S := fun w' => True) (ds := []) #[false, false, false, false, false, false] (by kernel_rfl) rfl rfl trivial (fun hHeld => ?_)
                              generalize w.drew = w24 at HB hHeld ⊢
                              refine join_ (σ := Value × Value) 1 #[true, true, true, true, true, false] (fun s_ => [(17, s_.1), (18, .string (strOfNums y101)), (19, s_.2), (20, .string (strOfNums y104)), (1, .string (strOfNums y101))]) (fun s_ w' => (Kd.R (Kd.int .u8) 5 w' w.heap.size (fun k_ => some k_ ≠ (s_.2 : Value).ownBlock) s_.1 y101) ∧ (Kd.R (Kd.int .u8) 5 w' w.heap.size (fun k_ => some k_ ≠ (s_.1 : Value).ownBlock) s_.2 y104) ∧ (Below w.heap.size w w')) ?_ ?_
                              rotate_left
                              · intro hJ0_1_2_3
                                refine join_ (σ := Value × Value) 2 #[true, true, true, false, true, false] (fun s_ => [(17, s_.1), (18, .string (strOfNums y101)), (19, s_.2), (1, .string (strOfNums y101))]) (fun s_ w' => (Kd.R (Kd.int .u8) 5 w' w.heap.size (fun k_ => some k_ ≠ (s_.2 : Value).ownBlock) s_.1 y101) ∧ (Kd.R (Kd.int .u8) 5 w' w.heap.size (fun k_ => some k_ ≠ (s_.1 : Value).ownBlock) s_.2 y104) ∧ (Below w.heap.size w w')) ?_ ?_
                                rotate_left
                                · intro hJ0_1_2
                                  refine join_ (σ := Value × Value) 3 #[true, false, true, true, false, false] (fun s_ => [(17, s_.1), (19, s_.2), (20, .string (strOfNums y104))]) (fun s_ w' => (Kd.R (Kd.int .u8) 5 w' w.heap.size (fun k_ => some k_ ≠ (s_.2 : Value).ownBlock) s_.1 y101) ∧ (Kd.R (Kd.int .u8) 5 w' w.heap.size (fun k_ => some k_ ≠ (s_.1 : Value).ownBlock) s_.2 y104) ∧ (Below w.heap.size w w')) ?_ ?_
                                  rotate_left
                                  · intro hJ0_2_3
                                    refine join_ (σ := Value) 3 #[true, true, false, false, true, false] (fun s_ => [(17, s_), (18, .string (strOfNums y101)), (1, .string (strOfNums y101))]) (fun s_ w' => (Kd.R (Kd.int .u8) 5 w' w.heap.size (fun _ => True) s_ y101) ∧ (Below w.heap.size w w')) ?_ ?_
                                    rotate_left
                                    · intro hJ0_1
                                      refine join_ (σ := Value × Value) 4 #[true, false, true, false, false, false] (fun s_ => [(17, s_.1), (19, s_.2)]) (fun s_ w' => (Kd.R (Kd.int .u8) 5 w' w.heap.size (fun k_ => some k_ ≠ (s_.2 : Value).ownBlock) s_.1 y101) ∧ (Kd.R (Kd.int .u8) 5 w' w.heap.size (fun k_ => some k_ ≠ (s_.1 : Value).ownBlock) s_.2 y104) ∧ (Below w.heap.size w w')) ?_ ?_
                                      rotate_left
                                      · intro hJ0_2
                                        refine join_ (σ := Value) 4 #[false, false, true, true, false, false] (fun s_ => [(19, s_), (20, .string (strOfNums y104))]) (fun s_ w' => (Kd.R (Kd.int .u8) 5 w' w.heap.size (fun _ => True) s_ y104) ∧ (Below w.heap.size w w')) ?_ ?_
                                        rotate_left
                                        · intro hJ2_3
                                          refine join_ (σ := Value) 5 #[true, false, false, false, false, false] (fun s_ => [(17, s_)]) (fun s_ w' => (Kd.R (Kd.int .u8) 5 w' w.heap.size (fun _ => True) s_ y101) ∧ (Below w.heap.size w w')) ?_ ?_
                                          rotate_left
                                          · intro hJ0
                                            refine join_ (σ := Value) 5 #[false, false, true, false, false, false] (fun s_ => [(19, s_)]) (fun s_ w' => (Kd.R (Kd.int .u8) 5 w' w.heap.size (fun _ => True) s_ y104) ∧ (Below w.heap.size w w')) ?_ ?_
                                            rotate_left
                                            · intro hJ2
                                              refine two_ (i := 0) (j := 2) (Ni := some 17) (Nj := some 19) #[true, false, false, false, false, false] #[false, false, true, false, false, false] rfl rfl rfl rfl (by kernel_rfl) (by decide) (by decide) (fun K hK => ?_) (fun K hK => ?_)
                                              · skip
                                                refine Kd.R_make_step (Kd.int .u8) _ 5 (by rfl) (N := 17) rfl 39 _ _ rfl 32 rfl rfl Try.underlying39 (.int .u8 0) 1 info5 rfl (by decide) (by omega) 0 (ok := fun _ => True) (okp := fun _ => True) rfl (fun _ hk => hk) trivial (by omega) (by omega) (Below.refl _ _) (Nat.le_refl _) ?_
                                                intro v102 w25 ho26 hb hg_ hnew_
                                                clear hg_ hnew_
                                                (first | rw [← Ny101.out] at ho26 | (simp only [Int.reduceToNat] at ho26; rw [← Ny101.out] at ho26))
                                                have n0_ := Aside0.mk (Kd.R_lower ho26 (below_size (by repeat (first | (with_reducible first | exact HB.out | apply below_alloc | apply pw_below_drewN | apply below_drew1) | exact HB.out))))
                                                have n1_ := Aside0.mk (below_step (by repeat (first | (with_reducible first | exact HB.out | apply below_alloc | apply pw_below_drewN | apply below_drew1) | exact HB.out)) hb)
                                                clear HB
                                                have HO103 := n0_
                                                have HB := n1_
                                                clear n0_ n1_
                                                clear hb ho26
                                                refine hK.out _ _ trivial (fun hHeld => ?_)
                                                clear hK K
                                                refine norm_ (a' := ?_) ?_ ?_
                                                rotate_left
                                                · show Act.put _ (some 17) _ = _
                                                  simp only [Act.put, List.setIfInBounds_toArray, List.set_cons_zero, List.set_cons_succ, i64_w, i32_w]
                                                  rfl
                                                exact norm_ (by first | (simp only [putAll, Act.put, List.setIfInBounds_toArray, List.set_cons_zero, List.set_cons_succ]; done) | (simp only [putAll, Act.put, List.setIfInBounds_toArray, List.set_cons_zero, List.set_cons_succ]; rfl)) (hJ0 (v102) _ ⟨(by (with_reducible repeat (first | apply Kd.R_alloc | apply Kd.R_drewN | apply Kd.R_drew)); exact HO103.out), (by repeat (first | (with_reducible first | exact HB.out | apply below_alloc | apply pw_below_drewN | apply below_drew1) | exact HB.out))⟩)
                                              · skip
                                                refine Kd.R_make_step (Kd.int .u8) _ 5 (by rfl) (N := 19) rfl 39 _ _ rfl 16 rfl rfl Try.underlying39 (.int .u8 0) 1 info5 rfl (by decide) (by omega) 0 (ok := fun _ => True) (okp := fun _ => True) rfl (fun _ hk => hk) trivial (by omega) (by omega) (Below.refl _ _) (Nat.le_refl _) ?_
                                                intro v105 w25 ho26 hb hg_ hnew_
                                                clear hg_ hnew_
                                                (first | rw [← Ny104.out] at ho26 | (simp only [Int.reduceToNat] at ho26; rw [← Ny104.out] at ho26))
                                                have n0_ := Aside0.mk (Kd.R_lower ho26 (below_size (by repeat (first | (with_reducible first | exact HB.out | apply below_alloc | apply pw_below_drewN | apply below_drew1) | exact HB.out))))
                                                have n1_ := Aside0.mk (below_step (by repeat (first | (with_reducible first | exact HB.out | apply below_alloc | apply pw_below_drewN | apply below_drew1) | exact HB.out)) hb)
                                                clear HB
                                                have HO106 := n0_
                                                have HB := n1_
                                                clear n0_ n1_
                                                clear hb ho26
                                                refine hK.out _ _ trivial (fun hHeld => ?_)
                                                clear hK K
                                                refine norm_ (a' := ?_) ?_ ?_
                                                rotate_left
                                                · show Act.put _ (some 19) _ = _
                                                  simp only [Act.put, List.setIfInBounds_toArray, List.set_cons_zero, List.set_cons_succ, i64_w, i32_w]
                                                  rfl
                                                exact norm_ (by first | (simp only [putAll, Act.put, List.setIfInBounds_toArray, List.set_cons_zero, List.set_cons_succ]; done) | (simp only [putAll, Act.put, List.setIfInBounds_toArray, List.set_cons_zero, List.set_cons_succ]; rfl)) (hJ2 (v105) _ ⟨(by (with_reducible repeat (first | apply Kd.R_alloc | apply Kd.R_drewN | apply Kd.R_drew)); exact HO106.out), (by repeat (first | (with_reducible first | exact HB.out | apply below_alloc | apply pw_below_drewN | apply below_drew1) | exact HB.out))⟩)
                                            · skip
                                              rintro v105 w27 ⟨h0_, h1_⟩
                                              have n0_ : Aside0 (Kd.R (Kd.int .u8) 5 w27 w.heap.size (fun _ => True) v105 y104) := ⟨h0_⟩
                                              have n1_ : Aside0 (Below w.heap.size w w27) := ⟨h1_⟩
                                              clear HB
                                              clear h0_ h1_
                                              have HO106 := n0_
                                              have HB := n1_
                                              clear n0_ n1_
                                              have hHeld := trivial
                                              refine norm_ (a' := ?_) ?_ ?_
                                              rotate_left
                                              · simp only [putAll, Act.put, List.setIfInBounds_toArray, List.set_cons_zero, List.set_cons_succ]
                                                rfl
                                              refine two_ (i := 0) (j := 3) (Ni := some 17) (Nj := some 20) #[true, false, true, false, false, false] #[false, false, true, true, false, false] rfl rfl rfl rfl (by kernel_rfl) (by decide) (by decide) (fun K hK => ?_) (fun K hK => ?_)
                                              · skip
                                                refine Kd.R_make_step (Kd.int .u8) _ 5 (by rfl) (N := 17) rfl 39 _ _ rfl 32 rfl rfl Try.underlying39 (.int .u8 0) 1 info5 rfl (by decide) (by omega) 0 (ok := fun _ => True) (okp := fun _ => True) rfl (fun _ hk => hk) trivial (by omega) (by omega) (Below.refl _ _) (Nat.le_refl _) ?_
                                                intro v102 w28 ho29 hb hg_ hnew_
                                                clear hg_ hnew_
                                                (first | rw [← Ny101.out] at ho29 | (simp only [Int.reduceToNat] at ho29; rw [← Ny101.out] at ho29))
                                                have n0_ := Aside0.mk (Kd.R_elder' (by (with_reducible repeat (first | apply Kd.R_alloc | apply Kd.R_drewN | apply Kd.R_drew)); exact HO106.out) (Kd.R_base ho29) hb)
                                                have n1_ := Aside0.mk (Kd.R_lower (Kd.R_new' ho29 (Kd.R_lt (by (with_reducible repeat (first | apply Kd.R_alloc | apply Kd.R_drewN | apply Kd.R_drew)); exact HO106.out))) (below_size (by repeat (first | (with_reducible first | exact HB.out | apply below_alloc | apply pw_below_drewN | apply below_drew1) | exact HB.out))))
                                                have n2_ := Aside0.mk (below_step (by repeat (first | (with_reducible first | exact HB.out | apply below_alloc | apply pw_below_drewN | apply below_drew1) | exact HB.out)) hb)
                                                clear HO106
                                                clear HB
                                                have HO106 := n0_
                                                have HO103 := n1_
                                                have HB := n2_
                                                clear n0_ n1_ n2_
                                                clear hb ho29
                                                refine hK.out _ _ trivial (fun hHeld => ?_)
                                                clear hK K
                                                refine norm_ (a' := ?_) ?_ ?_
                                                rotate_left
                                                · show Act.put _ (some 17) _ = _
                                                  simp only [Act.put, List.setIfInBounds_toArray, List.set_cons_zero, List.set_cons_succ, i64_w, i32_w]
                                                  rfl
                                                exact norm_ (by first | (simp only [putAll, Act.put, List.setIfInBounds_toArray, List.set_cons_zero, List.set_cons_succ]; done) | (simp only [putAll, Act.put, List.setIfInBounds_toArray, List.set_cons_zero, List.set_cons_succ]; rfl)) (hJ0_2 (v102, v105) _ ⟨(by (with_reducible repeat (first | apply Kd.R_alloc | apply Kd.R_drewN | apply Kd.R_drew)); exact Kd.R_mono HO103.out (fun _ hk => hk.2)), (by (with_reducible repeat (first | apply Kd.R_alloc | apply Kd.R_drewN | apply Kd.R_drew)); exact Kd.R_mono HO106.out (fun _ hk => hk.2)), (by repeat (first | (with_reducible first | exact HB.out | apply below_alloc | apply pw_below_drewN | apply below_drew1) | exact HB.out))⟩)
                                              · skip
                                                have hcv28 := own_string (P := Try.prog) Try.underlying39 Try.underlying5 Try.underlying9 (Kd.own_of_R HO106.out)
                                                refine value_ (w1 := ?_) (v := ?_) (by rfl) rfl ?_ ?_
                                                rotate_left 2
                                                · go_simp
                                                  constructor
                                                  · rfl
                                                  · rfl
                                                clear hcv28
                                                refine hK.out _ _ trivial (fun hHeld => ?_)
                                                clear hK K
                                                refine norm_ (a' := ?_) ?_ ?_
                                                rotate_left
                                                · show Act.put _ (some 20) _ = _
                                                  simp only [Act.put, List.setIfInBounds_toArray, List.set_cons_zero, List.set_cons_succ, i64_w, i32_w]
                                                  rfl
                                                exact norm_ (by first | (simp only [putAll, Act.put, List.setIfInBounds_toArray, List.set_cons_zero, List.set_cons_succ]; done) | (simp only [putAll, Act.put, List.setIfInBounds_toArray, List.set_cons_zero, List.set_cons_succ]; rfl)) (hJ2_3 (v105) _ ⟨(by (with_reducible repeat (first | apply Kd.R_alloc | apply Kd.R_drewN | apply Kd.R_drew)); exact HO106.out), (by repeat (first | (with_reducible first | exact HB.out | apply below_alloc | apply pw_below_drewN | apply below_drew1) | exact HB.out))⟩)
                                          · skip
                                            rintro v102 w27 ⟨h0_, h1_⟩
                                            have n0_ : Aside0 (Kd.R (Kd.int .u8) 5 w27 w.heap.size (fun _ => True) v102 y101) := ⟨h0_⟩
                                            have n1_ : Aside0 (Below w.heap.size w w27) := ⟨h1_⟩
                                            clear HB
                                            clear h0_ h1_
                                            have HO103 := n0_
                                            have HB := n1_
                                            clear n0_ n1_
                                            have hHeld := trivial
                                            refine norm_ (a' := ?_) ?_ ?_
                                            rotate_left
                                            · simp only [putAll, Act.put, List.setIfInBounds_toArray, List.set_cons_zero, List.set_cons_succ]
                                              rfl
                                            refine two_ (i := 1) (j := 2) (Ni := some 18) (Nj := some 19) #[true, true, false, false, false, false] #[true, false, true, false, false, false] rfl rfl rfl rfl (by kernel_rfl) (by decide) (by decide) (fun K hK => ?_) (fun K hK => ?_)
                                            · skip
                                              have hcv28 := own_string (P := Try.prog) Try.underlying39 Try.underlying5 Try.underlying9 (Kd.own_of_R HO103.out)
                                              refine value_ (w1 := ?_) (v := ?_) (by rfl) rfl ?_ ?_
                                              rotate_left 2
                                              · go_simp
                                                constructor
                                                · rfl
                                                · rfl
                                              clear hcv28
                                              refine hK.out _ _ trivial (fun hHeld => ?_)
                                              clear hK K
                                              refine norm_ (a' := ?_) ?_ ?_
                                              rotate_left
                                              · show Act.put _ (some 18) _ = _
                                                simp only [Act.put, List.setIfInBounds_toArray, List.set_cons_zero, List.set_cons_succ, i64_w, i32_w]
                                                rfl
                                              refine pure_ (i := 4) (N := some 1) (v := ?_) (a' := ?_) #[true, true, false, false, true, false] rfl rfl (by kernel_rfl) (fun _ _ _ h => h) (Or.inl ⟨by rfl, ?_⟩) ?_ ?_
                                              rotate_left
                                              · intro w'
                                                go_simp
                                                with_reducible rfl
                                              rotate_left
                                              · simp only [Act.put, List.setIfInBounds_toArray, List.set_cons_zero, List.set_cons_succ, i64_w, i32_w]
                                                rfl
                                              exact norm_ (by first | (simp only [putAll, Act.put, List.setIfInBounds_toArray, List.set_cons_zero, List.set_cons_succ]; done) | (simp only [putAll, Act.put, List.setIfInBounds_toArray, List.set_cons_zero, List.set_cons_succ]; rfl)) (hJ0_1 (v102) _ ⟨(by (with_reducible repeat (first | apply Kd.R_alloc | apply Kd.R_drewN | apply Kd.R_drew)); exact HO103.out), (by repeat (first | (with_reducible first | exact HB.out | apply below_alloc | apply pw_below_drewN | apply below_drew1) | exact HB.out))⟩)
                                            · skip
                                              refine Kd.R_make_step (Kd.int .u8) _ 5 (by rfl) (N := 19) rfl 39 _ _ rfl 16 rfl rfl Try.underlying39 (.int .u8 0) 1 info5 rfl (by decide) (by omega) 0 (ok := fun _ => True) (okp := fun _ => True) rfl (fun _ hk => hk) trivial (by omega) (by omega) (Below.refl _ _) (Nat.le_refl _) ?_
                                              intro v105 w28 ho29 hb hg_ hnew_
                                              clear hg_ hnew_
                                              (first | rw [← Ny104.out] at ho29 | (simp only [Int.reduceToNat] at ho29; rw [← Ny104.out] at ho29))
                                              have n0_ := Aside0.mk (Kd.R_elder' (by (with_reducible repeat (first | apply Kd.R_alloc | apply Kd.R_drewN | apply Kd.R_drew)); exact HO103.out) (Kd.R_base ho29) hb)
                                              have n1_ := Aside0.mk (Kd.R_lower (Kd.R_new' ho29 (Kd.R_lt (by (with_reducible repeat (first | apply Kd.R_alloc | apply Kd.R_drewN | apply Kd.R_drew)); exact HO103.out))) (below_size (by repeat (first | (with_reducible first | exact HB.out | apply below_alloc | apply pw_below_drewN | apply below_drew1) | exact HB.out))))
                                              have n2_ := Aside0.mk (below_step (by repeat (first | (with_reducible first | exact HB.out | apply below_alloc | apply pw_below_drewN | apply below_drew1) | exact HB.out)) hb)
                                              clear HO103
                                              clear HB
                                              have HO103 := n0_
                                              have HO106 := n1_
                                              have HB := n2_
                                              clear n0_ n1_ n2_
                                              clear hb ho29
                                              refine hK.out _ _ trivial (fun hHeld => ?_)
                                              clear hK K
                                              refine norm_ (a' := ?_) ?_ ?_
                                              rotate_left
                                              · show Act.put _ (some 19) _ = _
                                                simp only [Act.put, List.setIfInBounds_toArray, List.set_cons_zero, List.set_cons_succ, i64_w, i32_w]
                                                rfl
                                              exact norm_ (by first | (simp only [putAll, Act.put, List.setIfInBounds_toArray, List.set_cons_zero, List.set_cons_succ]; done) | (simp only [putAll, Act.put, List.setIfInBounds_toArray, List.set_cons_zero, List.set_cons_succ]; rfl)) (hJ0_2 (v102, v105) _ ⟨(by (with_reducible repeat (first | apply Kd.R_alloc | apply Kd.R_drewN | apply Kd.R_drew)); exact Kd.R_mono HO103.out (fun _ hk => hk.2)), (by (with_reducible repeat (first | apply Kd.R_alloc | apply Kd.R_drewN | apply Kd.R_drew)); exact Kd.R_mono HO106.out (fun _ hk => hk.2)), (by repeat (first | (with_reducible first | exact HB.out | apply below_alloc | apply pw_below_drewN | apply below_drew1) | exact HB.out))⟩)
                                        · skip
                                          rintro v105 w28 ⟨h0_, h1_⟩
                                          have n0_ : Aside0 (Kd.R (Kd.int .u8) 5 w28 w.heap.size (fun _ => True) v105 y104) := ⟨h0_⟩
                                          have n1_ : Aside0 (Below w.heap.size w w28) := ⟨h1_⟩
                                          clear HB
                                          clear h0_ h1_
                                          have HO106 := n0_
                                          have HB := n1_
                                          clear n0_ n1_
                                          have hHeld := trivial
                                          refine norm_ (a' := ?_) ?_ ?_
                                          rotate_left
                                          · simp only [putAll, Act.put, List.setIfInBounds_toArray, List.set_cons_zero, List.set_cons_succ]
                                            rfl
                                          refine one_ (i := 0) (N := some 17) #[true, false, true, true, false, false] rfl rfl (by kernel_rfl) (by decide) (fun K hK => ?_)
                                          refine Kd.R_make_step (Kd.int .u8) _ 5 (by rfl) (N := 17) rfl 39 _ _ rfl 32 rfl rfl Try.underlying39 (.int .u8 0) 1 info5 rfl (by decide) (by omega) 0 (ok := fun _ => True) (okp := fun _ => True) rfl (fun _ hk => hk) trivial (by omega) (by omega) (Below.refl _ _) (Nat.le_refl _) ?_
                                          intro v102 w29 ho30 hb hg_ hnew_
                                          clear hg_ hnew_
                                          (first | rw [← Ny101.out] at ho30 | (simp only [Int.reduceToNat] at ho30; rw [← Ny101.out] at ho30))
                                          have n0_ := Aside0.mk (Kd.R_elder' (by (with_reducible repeat (first | apply Kd.R_alloc | apply Kd.R_drewN | apply Kd.R_drew)); exact HO106.out) (Kd.R_base ho30) hb)
                                          have n1_ := Aside0.mk (Kd.R_lower (Kd.R_new' ho30 (Kd.R_lt (by (with_reducible repeat (first | apply Kd.R_alloc | apply Kd.R_drewN | apply Kd.R_drew)); exact HO106.out))) (below_size (by repeat (first | (with_reducible first | exact HB.out | apply below_alloc | apply pw_below_drewN | apply below_drew1) | exact HB.out))))
                                          have n2_ := Aside0.mk (below_step (by repeat (first | (with_reducible first | exact HB.out | apply below_alloc | apply pw_below_drewN | apply below_drew1) | exact HB.out)) hb)
                                          clear HO106
                                          clear HB
                                          have HO106 := n0_
                                          have HO103 := n1_
                                          have HB := n2_
                                          clear n0_ n1_ n2_
                                          clear hb ho30
                                          refine hK.out _ _ trivial (fun hHeld => ?_)
                                          clear hK K
                                          refine norm_ (a' := ?_) ?_ ?_
                                          rotate_left
                                          · show Act.put _ (some 17) _ = _
                                            simp only [Act.put, List.setIfInBounds_toArray, List.set_cons_zero, List.set_cons_succ, i64_w, i32_w]
                                            rfl
                                          exact norm_ (by first | (simp only [putAll, Act.put, List.setIfInBounds_toArray, List.set_cons_zero, List.set_cons_succ]; done) | (simp only [putAll, Act.put, List.setIfInBounds_toArray, List.set_cons_zero, List.set_cons_succ]; rfl)) (hJ0_2_3 (v102, v105) _ ⟨(by (with_reducible repeat (first | apply Kd.R_alloc | apply Kd.R_drewN | apply Kd.R_drew)); exact Kd.R_mono HO103.out (fun _ hk => hk.2)), (by (with_reducible repeat (first | apply Kd.R_alloc | apply Kd.R_drewN | apply Kd.R_drew)); exact Kd.R_mono HO106.out (fun _ hk => hk.2)), (by repeat (first | (with_reducible first | exact HB.out | apply below_alloc | apply pw_below_drewN | apply below_drew1) | exact HB.out))⟩)
                                      · skip
                                        rintro ⟨v102, v105⟩ w29 ⟨h0_, h1_, h2_⟩
                                        have n0_ : Aside0 (Kd.R (Kd.int .u8) 5 w29 w.heap.size (fun k_ => some k_ ≠ (v105 : Value).ownBlock) v102 y101) := ⟨h0_⟩
                                        have n1_ : Aside0 (Kd.R (Kd.int .u8) 5 w29 w.heap.size (fun k_ => some k_ ≠ (v102 : Value).ownBlock) v105 y104) := ⟨h1_⟩
                                        have n2_ : Aside0 (Below w.heap.size w w29) := ⟨h2_⟩
                                        clear HB
                                        clear h0_ h1_ h2_
                                        have HO103 := n0_
                                        have HO106 := n1_
                                        have HB := n2_
                                        clear n0_ n1_ n2_
                                        have hHeld := trivial
                                        refine norm_ (a' := ?_) ?_ ?_
                                        rotate_left
                                        · simp only [putAll, Act.put, List.setIfInBounds_toArray, List.set_cons_zero, List.set_cons_succ]
                                          rfl
                                        refine two_ (i := 1) (j := 3) (Ni := some 18) (Nj := some 20) #[true, true, true, false, false, false] #[true, false, true, true, false, false] rfl rfl rfl rfl (by kernel_rfl) (by decide) (by decide) (fun K hK => ?_) (fun K hK => ?_)
                                        · skip
                                          have hcv30 := own_string (P := Try.prog) Try.underlying39 Try.underlying5 Try.underlying9 (Kd.own_of_R HO103.out)
                                          refine value_ (w1 := ?_) (v := ?_) (by rfl) rfl ?_ ?_
                                          rotate_left 2
                                          · go_simp
                                            constructor
                                            · rfl
                                            · rfl
                                          clear hcv30
                                          refine hK.out _ _ trivial (fun hHeld => ?_)
                                          clear hK K
                                          refine norm_ (a' := ?_) ?_ ?_
                                          rotate_left
                                          · show Act.put _ (some 18) _ = _
                                            simp only [Act.put, List.setIfInBounds_toArray, List.set_cons_zero, List.set_cons_succ, i64_w, i32_w]
                                            rfl
                                          refine pure_ (i := 4) (N := some 1) (v := ?_) (a' := ?_) #[true, true, true, false, true, false] rfl rfl (by kernel_rfl) (fun _ _ _ h => h) (Or.inl ⟨by rfl, ?_⟩) ?_ ?_
                                          rotate_left
                                          · intro w'
                                            go_simp
                                            with_reducible rfl
                                          rotate_left
                                          · simp only [Act.put, List.setIfInBounds_toArray, List.set_cons_zero, List.set_cons_succ, i64_w, i32_w]
                                            rfl
                                          exact norm_ (by first | (simp only [putAll, Act.put, List.setIfInBounds_toArray, List.set_cons_zero, List.set_cons_succ]; done) | (simp only [putAll, Act.put, List.setIfInBounds_toArray, List.set_cons_zero, List.set_cons_succ]; rfl)) (hJ0_1_2 (v102, v105) _ ⟨(by (with_reducible repeat (first | apply Kd.R_alloc | apply Kd.R_drewN | apply Kd.R_drew)); exact HO103.out), (by (with_reducible repeat (first | apply Kd.R_alloc | apply Kd.R_drewN | apply Kd.R_drew)); exact HO106.out), (by repeat (first | (with_reducible first | exact HB.out | apply below_alloc | apply pw_below_drewN | apply below_drew1) | exact HB.out))⟩)
                                        · skip
                                          have hcv30 := own_string (P := Try.prog) Try.underlying39 Try.underlying5 Try.underlying9 (Kd.own_of_R HO106.out)
                                          refine value_ (w1 := ?_) (v := ?_) (by rfl) rfl ?_ ?_
                                          rotate_left 2
                                          · go_simp
                                            constructor
                                            · rfl
                                            · rfl
                                          clear hcv30
                                          refine hK.out _ _ trivial (fun hHeld => ?_)
                                          clear hK K
                                          refine norm_ (a' := ?_) ?_ ?_
                                          rotate_left
                                          · show Act.put _ (some 20) _ = _
                                            simp only [Act.put, List.setIfInBounds_toArray, List.set_cons_zero, List.set_cons_succ, i64_w, i32_w]
                                            rfl
                                          exact norm_ (by first | (simp only [putAll, Act.put, List.setIfInBounds_toArray, List.set_cons_zero, List.set_cons_succ]; done) | (simp only [putAll, Act.put, List.setIfInBounds_toArray, List.set_cons_zero, List.set_cons_succ]; rfl)) (hJ0_2_3 (v102, v105) _ ⟨(by (with_reducible repeat (first | apply Kd.R_alloc | apply Kd.R_drewN | apply Kd.R_drew)); exact HO103.out), (by (with_reducible repeat (first | apply Kd.R_alloc | apply Kd.R_drewN | apply Kd.R_drew)); exact HO106.out), (by repeat (first | (with_reducible first | exact HB.out | apply below_alloc | apply pw_below_drewN | apply below_drew1) | exact HB.out))⟩)
                                    · skip
                                      rintro v102 w28 ⟨h0_, h1_⟩
                                      have n0_ : Aside0 (Kd.R (Kd.int .u8) 5 w28 w.heap.size (fun _ => True) v102 y101) := ⟨h0_⟩
                                      have n1_ : Aside0 (Below w.heap.size w w28) := ⟨h1_⟩
                                      clear HB
                                      clear h0_ h1_
                                      have HO103 := n0_
                                      have HB := n1_
                                      clear n0_ n1_
                                      have hHeld := trivial
                                      refine norm_ (a' := ?_) ?_ ?_
                                      rotate_left
                                      · simp only [putAll, Act.put, List.setIfInBounds_toArray, List.set_cons_zero, List.set_cons_succ]
                                        rfl
                                      refine one_ (i := 2) (N := some 19) #[true, true, true, false, true, false] rfl rfl (by kernel_rfl) (by decide) (fun K hK => ?_)
                                      refine Kd.R_make_step (Kd.int .u8) _ 5 (by rfl) (N := 19) rfl 39 _ _ rfl 16 rfl rfl Try.underlying39 (.int .u8 0) 1 info5 rfl (by decide) (by omega) 0 (ok := fun _ => True) (okp := fun _ => True) rfl (fun _ hk => hk) trivial (by omega) (by omega) (Below.refl _ _) (Nat.le_refl _) ?_
                                      intro v105 w29 ho30 hb hg_ hnew_
                                      clear hg_ hnew_
                                      (first | rw [← Ny104.out] at ho30 | (simp only [Int.reduceToNat] at ho30; rw [← Ny104.out] at ho30))
                                      have n0_ := Aside0.mk (Kd.R_elder' (by (with_reducible repeat (first | apply Kd.R_alloc | apply Kd.R_drewN | apply Kd.R_drew)); exact HO103.out) (Kd.R_base ho30) hb)
                                      have n1_ := Aside0.mk (Kd.R_lower (Kd.R_new' ho30 (Kd.R_lt (by (with_reducible repeat (first | apply Kd.R_alloc | apply Kd.R_drewN | apply Kd.R_drew)); exact HO103.out))) (below_size (by repeat (first | (with_reducible first | exact HB.out | apply below_alloc | apply pw_below_drewN | apply below_drew1) | exact HB.out))))
                                      have n2_ := Aside0.mk (below_step (by repeat (first | (with_reducible first | exact HB.out | apply below_alloc | apply pw_below_drewN | apply below_drew1) | exact HB.out)) hb)
                                      clear HO103
                                      clear HB
                                      have HO103 := n0_
                                      have HO106 := n1_
                                      have HB := n2_
                                      clear n0_ n1_ n2_
                                      clear hb ho30
                                      refine hK.out _ _ trivial (fun hHeld => ?_)
                                      clear hK K
                                      refine norm_ (a' := ?_) ?_ ?_
                                      rotate_left
                                      · show Act.put _ (some 19) _ = _
                                        simp only [Act.put, List.setIfInBounds_toArray, List.set_cons_zero, List.set_cons_succ, i64_w, i32_w]
                                        rfl
                                      exact norm_ (by first | (simp only [putAll, Act.put, List.setIfInBounds_toArray, List.set_cons_zero, List.set_cons_succ]; done) | (simp only [putAll, Act.put, List.setIfInBounds_toArray, List.set_cons_zero, List.set_cons_succ]; rfl)) (hJ0_1_2 (v102, v105) _ ⟨(by (with_reducible repeat (first | apply Kd.R_alloc | apply Kd.R_drewN | apply Kd.R_drew)); exact Kd.R_mono HO103.out (fun _ hk => hk.2)), (by (with_reducible repeat (first | apply Kd.R_alloc | apply Kd.R_drewN | apply Kd.R_drew)); exact Kd.R_mono HO106.out (fun _ hk => hk.2)), (by repeat (first | (with_reducible first | exact HB.out | apply below_alloc | apply pw_below_drewN | apply below_drew1) | exact HB.out))⟩)
                                  · skip
                                    rintro ⟨v102, v105⟩ w30 ⟨h0_, h1_, h2_⟩
                                    have n0_ : Aside0 (Kd.R (Kd.int .u8) 5 w30 w.heap.size (fun k_ => some k_ ≠ (v105 : Value).ownBlock) v102 y101) := ⟨h0_⟩
                                    have n1_ : Aside0 (Kd.R (Kd.int .u8) 5 w30 w.heap.size (fun k_ => some k_ ≠ (v102 : Value).ownBlock) v105 y104) := ⟨h1_⟩
                                    have n2_ : Aside0 (Below w.heap.size w w30) := ⟨h2_⟩
                                    clear HB
                                    clear h0_ h1_ h2_
                                    have HO103 := n0_
                                    have HO106 := n1_
                                    have HB := n2_
                                    clear n0_ n1_ n2_
                                    have hHeld := trivial
                                    refine norm_ (a' := ?_) ?_ ?_
                                    rotate_left
                                    · simp only [putAll, Act.put, List.setIfInBounds_toArray, List.set_cons_zero, List.set_cons_succ]
                                      rfl
                                    refine one_ (i := 1) (N := some 18) #[true, true, true, true, false, false] rfl rfl (by kernel_rfl) (by decide) (fun K hK => ?_)
                                    have hcv31 := own_string (P := Try.prog) Try.underlying39 Try.underlying5 Try.underlying9 (Kd.own_of_R HO103.out)
                                    refine value_ (w1 := ?_) (v := ?_) (by rfl) rfl ?_ ?_
                                    rotate_left 2
                                    · go_simp
                                      constructor
                                      · rfl
                                      · rfl
                                    clear hcv31
                                    refine hK.out _ _ trivial (fun hHeld => ?_)
                                    clear hK K
                                    refine norm_ (a' := ?_) ?_ ?_
                                    rotate_left
                                    · show Act.put _ (some 18) _ = _
                                      simp only [Act.put, List.setIfInBounds_toArray, List.set_cons_zero, List.set_cons_succ, i64_w, i32_w]
                                      rfl
                                    refine pure_ (i := 4) (N := some 1) (v := ?_) (a' := ?_) #[true, true, true, true, true, false] rfl rfl (by kernel_rfl) (fun _ _ _ h => h) (Or.inl ⟨by rfl, ?_⟩) ?_ ?_
                                    rotate_left
                                    · intro w'
                                      go_simp
                                      with_reducible rfl
                                    rotate_left
                                    · simp only [Act.put, List.setIfInBounds_toArray, List.set_cons_zero, List.set_cons_succ, i64_w, i32_w]
                                      rfl
                                    exact norm_ (by first | (simp only [putAll, Act.put, List.setIfInBounds_toArray, List.set_cons_zero, List.set_cons_succ]; done) | (simp only [putAll, Act.put, List.setIfInBounds_toArray, List.set_cons_zero, List.set_cons_succ]; rfl)) (hJ0_1_2_3 (v102, v105) _ ⟨(by (with_reducible repeat (first | apply Kd.R_alloc | apply Kd.R_drewN | apply Kd.R_drew)); exact HO103.out), (by (with_reducible repeat (first | apply Kd.R_alloc | apply Kd.R_drewN | apply Kd.R_drew)); exact HO106.out), (by repeat (first | (with_reducible first | exact HB.out | apply below_alloc | apply pw_below_drewN | apply below_drew1) | exact HB.out))⟩)
                                · skip
                                  rintro ⟨v102, v105⟩ w30 ⟨h0_, h1_, h2_⟩
                                  have n0_ : Aside0 (Kd.R (Kd.int .u8) 5 w30 w.heap.size (fun k_ => some k_ ≠ (v105 : Value).ownBlock) v102 y101) := ⟨h0_⟩
                                  have n1_ : Aside0 (Kd.R (Kd.int .u8) 5 w30 w.heap.size (fun k_ => some k_ ≠ (v102 : Value).ownBlock) v105 y104) := ⟨h1_⟩
                                  have n2_ : Aside0 (Below w.heap.size w w30) := ⟨h2_⟩
                                  clear HB
                                  clear h0_ h1_ h2_
                                  have HO103 := n0_
                                  have HO106 := n1_
                                  have HB := n2_
                                  clear n0_ n1_ n2_
                                  have hHeld := trivial
                                  refine norm_ (a' := ?_) ?_ ?_
                                  rotate_left
                                  · simp only [putAll, Act.put, List.setIfInBounds_toArray, List.set_cons_zero, List.set_cons_succ]
                                    rfl
                                  refine one_ (i := 3) (N := some 20) #[true, true, true, true, true, false] rfl rfl (by kernel_rfl) (by decide) (fun K hK => ?_)
                                  have hcv31 := own_string (P := Try.prog) Try.underlying39 Try.underlying5 Try.underlying9 (Kd.own_of_R HO106.out)
                                  refine value_ (w1 := ?_) (v := ?_) (by rfl) rfl ?_ ?_
                                  rotate_left 2
                                  · go_simp
                                    constructor
                                    · rfl
                                    · rfl
                                  clear hcv31
                                  refine hK.out _ _ trivial (fun hHeld => ?_)
                                  clear hK K
                                  refine norm_ (a' := ?_) ?_ ?_
                                  rotate_left
                                  · show Act.put _ (some 20) _ = _
                                    simp only [Act.put, List.setIfInBounds_toArray, List.set_cons_zero, List.set_cons_succ, i64_w, i32_w]
                                    rfl
                                  exact norm_ (by first | (simp only [putAll, Act.put, List.setIfInBounds_toArray, List.set_cons_zero, List.set_cons_succ]; done) | (simp only [putAll, Act.put, List.setIfInBounds_toArray, List.set_cons_zero, List.set_cons_succ]; rfl)) (hJ0_1_2_3 (v102, v105) _ ⟨(by (with_reducible repeat (first | apply Kd.R_alloc | apply Kd.R_drewN | apply Kd.R_drew)); exact HO103.out), (by (with_reducible repeat (first | apply Kd.R_alloc | apply Kd.R_drewN | apply Kd.R_drew)); exact HO106.out), (by repeat (first | (with_reducible first | exact HB.out | apply below_alloc | apply pw_below_drewN | apply below_drew1) | exact HB.out))⟩)
                              rintro ⟨v102, v105⟩ w31 ⟨h0_, h1_, h2_⟩
                              have n0_ : Aside0 (Kd.R (Kd.int .u8) 5 w31 w.heap.size (fun k_ => some k_ ≠ (v105 : Value).ownBlock) v102 y101) := ⟨h0_⟩
                              have n1_ : Aside0 (Kd.R (Kd.int .u8) 5 w31 w.heap.size (fun k_ => some k_ ≠ (v102 : Value).ownBlock) v105 y104) := ⟨h1_⟩
                              have n2_ : Aside0 (Below w.heap.size w w31) := ⟨h2_⟩
                              clear HB
                              clear h0_ h1_ h2_
                              have HO103 := n0_
                              have HO106 := n1_
                              have HB := n2_
                              clear n0_ n1_ n2_
                              have hHeld := trivial
                              refine norm_ (a' := ?_) ?_ ?_
                              rotate_left
                              · simp only [putAll, Act.put, List.setIfInBounds_toArray, List.set_cons_zero, List.set_cons_succ]
                                rfl
                              refine pure_ (i := 5) (N := some 2) (v := ?_) (a' := ?_) #[true, true, true, true, true, true] rfl rfl (by kernel_rfl) (fun _ _ _ h => h) (Or.inl ⟨by rfl, ?_⟩) ?_ ?_
                              rotate_left
                              · intro w'
                                go_simp
                                with_reducible rfl
                              rotate_left
                              · simp only [Act.put, List.setIfInBounds_toArray, List.set_cons_zero, List.set_cons_succ, i64_w, i32_w]
                                rfl
                              refine done_ (by kernel_rfl) ?_
                              try go_wp2_with (first | ((with_reducible refine gate_callee (f := 22) rfl ?_); refine goesL_ (some 25) rfl rfl Try.func22 (by kernel_rfl) rfl #[.string ((strOfNums y101).extract 1 (strOfNums y101).size), .string (strOfNums y104), .string (⟨#[]⟩ : ByteArray)] rfl (by (try simp only [List.map_toArray, List.map_cons, List.map_nil]); first | done | rfl | (simp only [List.length_drop, List.length_take]; rfl)) ?_; (with_reducible refine (Given.cbc_Seal.calls ((strOfNums y101).extract 1 (strOfNums y101).size) (strOfNums y104) (⟨#[]⟩ : ByteArray) t107 t108 _ A4.out).mono ?_); rintro e w32 ⟨rfl, hb⟩; refine ⟨_, rfl, ?_⟩; have n0_ := Aside0.mk (Kd.R_below (by (with_reducible repeat (first | apply Kd.R_alloc | apply Kd.R_drewN | apply Kd.R_drew)); exact HO103.out) hb); have n1_ := Aside0.mk (Kd.R_below (by (with_reducible repeat (first | apply Kd.R_alloc | apply Kd.R_drewN | apply Kd.R_drew)); exact HO106.out) hb); have n2_ := Aside0.mk (below_step (by repeat (first | (with_reducible first | exact HB.out | apply below_alloc | apply pw_below_drewN | apply below_drew1) | exact HB.out)) hb); clear HO103; clear HO106; clear HB; have HO103 := n0_; have HO106 := n1_; have HB := n2_; clear n0_ n1_ n2_; (try clear hb); (try clear hb2); (try clear hk); (try clear hi)) | ((with_reducible refine gate_callee (f := 22) rfl ?_); refine goesL_ (some 32) rfl rfl Try.func22 (by kernel_rfl) rfl #[.string (strOfNums y101), .string ((strOfNums y104).extract 1 (strOfNums y104).size), .string (⟨#[]⟩ : ByteArray)] rfl (by (try simp only [List.map_toArray, List.map_cons, List.map_nil]); first | done | rfl | (simp only [List.length_drop, List.length_take]; rfl)) ?_; (with_reducible refine (Given.cbc_Seal.calls (strOfNums y101) ((strOfNums y104).extract 1 (strOfNums y104).size) (⟨#[]⟩ : ByteArray) t109 t110 _ A6.out).mono ?_); rintro e w33 ⟨rfl, hb⟩; refine ⟨_, rfl, ?_⟩; have n0_ := Aside0.mk (Kd.R_below (by (with_reducible repeat (first | apply Kd.R_alloc | apply Kd.R_drewN | apply Kd.R_drew)); exact HO103.out) hb); have n1_ := Aside0.mk (Kd.R_below (by (with_reducible repeat (first | apply Kd.R_alloc | apply Kd.R_drewN | apply Kd.R_drew)); exact HO106.out) hb); have n2_ := Aside0.mk (below_step (by repeat (first | (with_reducible first | exact HB.out | apply below_alloc | apply pw_below_drewN | apply below_drew1) | exact HB.out)) hb); clear HO103; clear HO106; clear HB; have HO103 := n0_; have HO106 := n1_; have HB := n2_; clear n0_ n1_ n2_; (try clear hb); (try clear hb2); (try clear hk); (try clear hi)) | ((with_reducible refine gate_callee (f := 24) rfl ?_); refine goesL_ (some 40) rfl rfl Try.func24 (by kernel_rfl) rfl #[.string ((strOfNums y101) ++ (⟨#[120]⟩ : ByteArray)), .string (strOfNums y104), .string (strOfNums y104)] rfl (by (try simp only [List.map_toArray, List.map_cons, List.map_nil]); first | done | rfl | (simp only [List.length_drop, List.length_take]; rfl)) ?_; (with_reducible refine (Given.cbc_Open.calls ((strOfNums y101) ++ (⟨#[120]⟩ : ByteArray)) (strOfNums y104) (strOfNums y104) t111 t112 _ A8.out).mono ?_); rintro e w34 ⟨rfl, hb⟩; refine ⟨_, rfl, ?_⟩; have n0_ := Aside0.mk (Kd.R_below (by (with_reducible repeat (first | apply Kd.R_alloc | apply Kd.R_drewN | apply Kd.R_drew)); exact HO103.out) hb); have n1_ := Aside0.mk (Kd.R_below (by (with_reducible repeat (first | apply Kd.R_alloc | apply Kd.R_drewN | apply Kd.R_drew)); exact HO106.out) hb); have n2_ := Aside0.mk (below_step (by repeat (first | (with_reducible first | exact HB.out | apply below_alloc | apply pw_below_drewN | apply below_drew1) | exact HB.out)) hb); clear HO103; clear HO106; clear HB; have HO103 := n0_; have HO106 := n1_; have HB := n2_; clear n0_ n1_ n2_; (try clear hb); (try clear hb2); (try clear hk); (try clear hi)) | ((with_reducible refine gate_callee (f := 24) rfl ?_); refine goesL_ (some 48) rfl rfl Try.func24 (by kernel_rfl) rfl #[.string (strOfNums y101), .string ((strOfNums y104) ++ (⟨#[120]⟩ : ByteArray)), .string (strOfNums y104)] rfl (by (try simp only [List.map_toArray, List.map_cons, List.map_nil]); first | done | rfl | (simp only [List.length_drop, List.length_take]; rfl)) ?_; (with_reducible refine (Given.cbc_Open.calls (strOfNums y101) ((strOfNums y104) ++ (⟨#[120]⟩ : ByteArray)) (strOfNums y104) t113 t114 _ A10.out).mono ?_); rintro e w35 ⟨rfl, hb⟩; refine ⟨_, rfl, ?_⟩; have n0_ := Aside0.mk (Kd.R_below (by (with_reducible repeat (first | apply Kd.R_alloc | apply Kd.R_drewN | apply Kd.R_drew)); exact HO103.out) hb); have n1_ := Aside0.mk (Kd.R_below (by (with_reducible repeat (first | apply Kd.R_alloc | apply Kd.R_drewN | apply Kd.R_drew)); exact HO106.out) hb); have n2_ := Aside0.mk (below_step (by repeat (first | (with_reducible first | exact HB.out | apply below_alloc | apply pw_below_drewN | apply below_drew1) | exact HB.out)) hb); clear HO103; clear HO106; clear HB; have HO103 := n0_; have HO106 := n1_; have HB := n2_; clear n0_ n1_ n2_; (try clear hb); (try clear hb2); (try clear hk); (try clear hi)) | ((with_reducible refine gate_callee (f := 24) rfl ?_); refine goesL_ (some 54) rfl rfl Try.func24 (by kernel_rfl) rfl #[.string (strOfNums y101), .string (strOfNums y104), .string (⟨#[]⟩ : ByteArray)] rfl (by (try simp only [List.map_toArray, List.map_cons, List.map_nil]); first | done | rfl | (simp only [List.length_drop, List.length_take]; rfl)) ?_; (with_reducible refine (Given.cbc_Open.calls (strOfNums y101) (strOfNums y104) (⟨#[]⟩ : ByteArray) t115 t116 _ A11.out).mono ?_); rintro e w36 ⟨rfl, hb⟩; refine ⟨_, rfl, ?_⟩; have n0_ := Aside0.mk (Kd.R_below (by (with_reducible repeat (first | apply Kd.R_alloc | apply Kd.R_drewN | apply Kd.R_drew)); exact HO103.out) hb); have n1_ := Aside0.mk (Kd.R_below (by (with_reducible repeat (first | apply Kd.R_alloc | apply Kd.R_drewN | apply Kd.R_drew)); exact HO106.out) hb); have n2_ := Aside0.mk (below_step (by repeat (first | (with_reducible first | exact HB.out | apply below_alloc | apply pw_below_drewN | apply below_drew1) | exact HB.out)) hb); clear HO103; clear HO106; clear HB; have HO103 := n0_; have HO106 := n1_; have HB := n2_; clear n0_ n1_ n2_; (try clear hb); (try clear hb2); (try clear hk); (try clear hi)) | ((with_reducible refine gate_callee (f := 24) rfl ?_); refine goesL_ (some 62) rfl rfl Try.func24 (by kernel_rfl) rfl #[.string (strOfNums y101), .string (strOfNums y104), .string ((strOfNums y104).extract 1 (strOfNums y104).size)] rfl (by (try simp only [List.map_toArray, List.map_cons, List.map_nil]); first | done | rfl | (simp only [List.length_drop, List.length_take]; rfl)) ?_; (with_reducible refine (Given.cbc_Open.calls (strOfNums y101) (strOfNums y104) ((strOfNums y104).extract 1 (strOfNums y104).size) t117 t118 _ A13.out).mono ?_); rintro e w37 ⟨rfl, hb⟩; refine ⟨_, rfl, ?_⟩; have n0_ := Aside0.mk (Kd.R_below (by (with_reducible repeat (first | apply Kd.R_alloc | apply Kd.R_drewN | apply Kd.R_drew)); exact HO103.out) hb); have n1_ := Aside0.mk (Kd.R_below (by (with_reducible repeat (first | apply Kd.R_alloc | apply Kd.R_drewN | apply Kd.R_drew)); exact HO106.out) hb); have n2_ := Aside0.mk (below_step (by repeat (first | (with_reducible first | exact HB.out | apply below_alloc | apply pw_below_drewN | apply below_drew1) | exact HB.out)) hb); clear HO103; clear HO106; clear HB; have HO103 := n0_; have HO106 := n1_; have HB := n2_; clear n0_ n1_ n2_; (try clear hb); (try clear hb2); (try clear hk); (try clear hi)) | ((with_reducible refine gate_dst (N := 68) rfl ?_); refine Kd.R_make (Kd.int .u8) _ 5 rfl (N := 68) rfl 39 _ _ rfl 1048577 rfl rfl Try.underlying39 (.int .u8 0) 1 info5 rfl (by decide) (by omega) 0 (ok := fun _ => True) (okp := fun _ => True) rfl (fun _ hk => hk) trivial (by omega) (by omega) (Below.refl _ _) (Nat.le_refl _) ?_; intro v120 w38 ho39 hb hg_ hnew_; clear hg_ hnew_; (first | rw [← Ny119.out] at ho39 | (simp only [Int.reduceToNat] at ho39; rw [← Ny119.out] at ho39)); have n0_ := Aside0.mk (Kd.R_elder' (by (with_reducible repeat (first | apply Kd.R_alloc | apply Kd.R_drewN | apply Kd.R_drew)); exact HO103.out) (Kd.R_base ho39) hb); have n1_ := Aside0.mk (Kd.R_elder' (by (with_reducible repeat (first | apply Kd.R_alloc | apply Kd.R_drewN | apply Kd.R_drew)); exact HO106.out) (Kd.R_base ho39) hb); have n2_ := Aside0.mk (Kd.R_lower (Kd.R_new' (Kd.R_new' ho39 (Kd.R_lt (by (with_reducible repeat (first | apply Kd.R_alloc | apply Kd.R_drewN | apply Kd.R_drew)); exact HO103.out))) (Kd.R_lt (by (with_reducible repeat (first | apply Kd.R_alloc | apply Kd.R_drewN | apply Kd.R_drew)); exact HO106.out))) (below_size (by repeat (first | (with_reducible first | exact HB.out | apply below_alloc | apply pw_below_drewN | apply below_drew1) | exact HB.out)))); have n3_ := Aside0.mk (below_step (by repeat (first | (with_reducible first | exact HB.out | apply below_alloc | apply pw_below_drewN | apply below_drew1) | exact HB.out)) hb); clear HO103; clear HO106; clear HB; have HO103 := n0_; have HO106 := n1_; have HO121 := n2_; have HB := n3_; clear n0_ n1_ n2_ n3_; clear hb ho39; have hcv40 := own_string (P := Try.prog) Try.underlying39 Try.underlying5 Try.underlying9 (Kd.own_of_R HO121.out)) | ((with_reducible refine gate_callee (f := 22) rfl ?_); refine goesL_ (some 70) rfl rfl Try.func22 (by kernel_rfl) rfl #[.string (strOfNums y101), .string (strOfNums y104), .string (strOfNums y119)] rfl (by (try simp only [List.map_toArray, List.map_cons, List.map_nil]); first | done | rfl | (simp only [List.length_drop, List.length_take]; rfl)) ?_; (with_reducible refine (Given.cbc_Seal.calls (strOfNums y101) (strOfNums y104) (strOfNums y119) t122 t123 _ A15.out).mono ?_); rintro e w41 ⟨rfl, hb⟩; refine ⟨_, rfl, ?_⟩; have n0_ := Aside0.mk (Kd.R_below (by (with_reducible repeat (first | apply Kd.R_alloc | apply Kd.R_drewN | apply Kd.R_drew)); exact HO103.out) hb); have n1_ := Aside0.mk (Kd.R_below (by (with_reducible repeat (first | apply Kd.R_alloc | apply Kd.R_drewN | apply Kd.R_drew)); exact HO106.out) hb); have n2_ := Aside0.mk (Kd.R_below (by (with_reducible repeat (first | apply Kd.R_alloc | apply Kd.R_drewN | apply Kd.R_drew)); exact HO121.out) hb); have n3_ := Aside0.mk (below_step (by repeat (first | (with_reducible first | exact HB.out | apply below_alloc | apply pw_below_drewN | apply below_drew1) | exact HB.out)) hb); clear HO103; clear HO106; clear HO121; clear HB; have HO103 := n0_; have HO106 := n1_; have HO121 := n2_; have HB := n3_; clear n0_ n1_ n2_ n3_; (try clear hb); (try clear hb2); (try clear hk); (try clear hi)) | (go_at_call 21; (with_reducible refine (Given.law10_awake.calls  t124 _ A23.out).mono ?_); rintro e w42 ⟨rfl, hb⟩; have n0_ := Aside0.mk (Kd.R_below (by (with_reducible repeat (first | apply Kd.R_alloc | apply Kd.R_drewN | apply Kd.R_drew)); exact HO103.out) hb); have n1_ := Aside0.mk (Kd.R_below (by (with_reducible repeat (first | apply Kd.R_alloc | apply Kd.R_drewN | apply Kd.R_drew)); exact HO106.out) hb); have n2_ := Aside0.mk (Kd.R_below (by (with_reducible repeat (first | apply Kd.R_alloc | apply Kd.R_drewN | apply Kd.R_drew)); exact HO121.out) hb); have n3_ := Aside0.mk (below_step (by repeat (first | (with_reducible first | exact HB.out | apply below_alloc | apply pw_below_drewN | apply below_drew1) | exact HB.out)) hb); clear HO103; clear HO106; clear HO121; clear HB; have HO103 := n0_; have HO106 := n1_; have HO121 := n2_; have HB := n3_; clear n0_ n1_ n2_ n3_; (try clear hb); (try clear hb2); (try clear hk); (try clear hi)))
                              go_ret
                              exact ⟨by first | rfl | (simp [errW_none, errW_some] <;> rfl) | (simp [*, errW_none, errW_some] <;> rfl), by repeat (first | (with_reducible first | exact HB.out | apply below_alloc | apply pw_below_drewN | apply below_drew1) | exact HB.out)⟩
                            · rw [if_neg c22] at H
                              have c22b0 : (t123 == 40) = false := beq_eq_false_iff_ne.mpr c22
                              have c22b1 : (t123 != 40) = true := bne_iff_ne.mpr c22
                              exact absurd ((Option.some.inj H).trans hr_.out) Bool.false_ne_true
                          · rw [if_neg c21] at H
                            have c21b0 : (t118 == 4) = false := beq_eq_false_iff_ne.mpr c21
                            have c21b1 : (t118 != 4) = true := bne_iff_ne.mpr c21
                            exact absurd ((Option.some.inj H).trans hr_.out) Bool.false_ne_true
                        · rw [if_neg c20] at H
                          have c20b0 : (t116 == 4) = false := beq_eq_false_iff_ne.mpr c20
                          have c20b1 : (t116 != 4) = true := bne_iff_ne.mpr c20
                          exact absurd ((Option.some.inj H).trans hr_.out) Bool.false_ne_true
                      · rw [if_neg c19] at H
                        have c19b0 : (t114 == 1) = false := beq_eq_false_iff_ne.mpr c19
                        have c19b1 : (t114 != 1) = true := bne_iff_ne.mpr c19
                        exact absurd ((Option.some.inj H).trans hr_.out) Bool.false_ne_true
                    · rw [if_neg c18] at H
                      have c18b0 : (t112 == 1) = false := beq_eq_false_iff_ne.mpr c18
                      have c18b1 : (t112 != 1) = true := bne_iff_ne.mpr c18
                      exact absurd ((Option.some.inj H).trans hr_.out) Bool.false_ne_true
                  · rw [if_neg c17] at H
                    have c17b0 : (t110 == 1) = false := beq_eq_false_iff_ne.mpr c17
                    have c17b1 : (t110 != 1) = true := bne_iff_ne.mpr c17
                    exact absurd ((Option.some.inj H).trans hr_.out) Bool.false_ne_true
                · rw [if_neg c16] at H
                  have c16b0 : (t108 == 1) = false := beq_eq_false_iff_ne.mpr c16
                  have c16b1 : (t108 != 1) = true := bne_iff_ne.mpr c16
                  exact absurd ((Option.some.inj H).trans hr_.out) Bool.false_ne_true
              · rw [if_neg c14] at H
                exact absurd H (by simp)
            · rw [if_neg c9] at H
              exact absurd H (by simp)
          · rw [if_neg c7] at H
            exact absurd H (by simp)
        · rw [if_neg c5] at H
          exact absurd H (by simp)
      · rw [if_neg c3] at H
        exact absurd H (by simp)
    · rw [if_neg c2] at H
      exact absurd H (by simp)
  · rw [if_neg c1] at H
    exact absurd H (by simp)

/-- THE ONE PURE STATEMENT of hamperlaw10_CbcNames: yours. -/
def hamperlaw10_CbcNames.Pure : Prop := hamperlaw10_CbcNames.f  = some true
theorem hamperlaw10_CbcNames.walk (P : hamperlaw10_CbcNames.Pure)  (w : World)  :
    Calls Try.prog 9 #[] w fun e w' => e = .returned (.bool true) ∧ Below w.heap.size w w' := by
  have h := P  
  refine (hamperlaw10_CbcNames.calls  true w h ⟨rfl⟩).mono ?_
  rintro e w' ⟨rfl, hd⟩
  exact ⟨rfl, hd⟩

end Go.Proofs.Ytfbcgpgpfpnpnaa.PCbcNames
