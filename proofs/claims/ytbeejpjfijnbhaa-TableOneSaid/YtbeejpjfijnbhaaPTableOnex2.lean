/- The machine side of a law: printed by a program (wip/gprint.py over the kit's print), with the contracts of some functions proved by hand. Conditions: as each theorem names them. -/
import Derived.Test.YtbeejpjfijnbhaaPTableOnex0
import Derived.Test.YtbeejpjfijnbhaaPTableOnex1
namespace Go.Proofs.Ytbeejpjfijnbhaa.PTableOne
open Go.RowKit Go.Proofs.YtbeejpjfijnbhaaW.PrintWords Go.Proofs.YtbeejpjfijnbhaaW.PrintLast Go.Proofs.YtbeejpjfijnbhaaW.PrintMore
attribute [local go_sem] max2_int min2_int max_two min_two max_three min_three max_four min_four   -- for this text's walks alone
set_option linter.unusedVariables false
set_option linter.unusedSimpArgs false

/-! ### hamperlaw13_TableOne: function 8 -/
mutual
def hamperlaw13_TableOne.l0 : Nat → Int → Int → List Int → Int → Option (Bool)
  | 0, _, _, _, _ => none
  | k + 1, x0, x1, x5, x6 => if x6 < x1 then (if 0 ≤ x6 then (if x6 < (x5.length : Int) then (hamperlaw13_TableOne.l0 k x0 x1 (x5.set (x6 : Int).toNat x0) (wrap64 (x6 + 1))) else (none)) else (none)) else ((Given.table_Make.f x5).bind fun bt160 => (if bt160.2 = 0 then (hamperlaw13_TableOne.j1 k x0 x1 x5 bt160.1 ((bt160.1.size : Int) != (wrap64 (Int.tdiv (wrap64 (x1 + 15)) 16)))) else (hamperlaw13_TableOne.j1 k x0 x1 x5 bt160.1 true)))
def hamperlaw13_TableOne.j1 : Nat → Int → Int → List Int → ByteArray → Bool → Option (Bool)
  | 0, _, _, _, _, _ => none
  | k + 1, x0, x1, x5, x7, x49 => if x49 = true then (some false) else (hamperlaw13_TableOne.l1 k x0 x1 x5 x7 0)
def hamperlaw13_TableOne.l1 : Nat → Int → Int → List Int → ByteArray → Int → Option (Bool)
  | 0, _, _, _, _, _ => none
  | k + 1, x0, x1, x5, x7, x9 => if x9 < (x7.size : Int) then (if x9 = (wrap64 ((x7.size : Int) - 1)) then (if 0 ≤ x9 then (if (wrap64 (bt x7 x9)) = (wrap64 ((wrap64 (16 * x0)) + (Int.tmod (wrap64 (x1 - 1)) 16))) then (hamperlaw13_TableOne.l1 k x0 x1 x5 x7 (wrap64 (x9 + 1))) else (some false)) else (none)) else (if 0 ≤ x9 then (if (wrap64 (bt x7 x9)) = (wrap64 ((wrap64 (16 * x0)) + 15)) then (hamperlaw13_TableOne.l1 k x0 x1 x5 x7 (wrap64 (x9 + 1))) else (some false)) else (none))) else ((table_Read.f k x7 x1).bind fun bt162 => (if bt162.2.2 = 0 then (if bt162.2.1 = (x7.size : Int) then ((hamperref13_Same.f k bt162.1 x5).bind fun t167 => (some t167)) else (some false)) else (some false)))
end
def hamperlaw13_TableOne.f (k : Nat) (a0 : Int) (a1 : Int) : Option (Bool) := (hamperlaw13_works.f k).bind fun t155 => (if t155 = true then (if 0 ≤ (wrap64 (Int.tmod (IntKind.u64.wrap (a1)) 2000)) then (if (wrap64 (Int.tmod (IntKind.u64.wrap (a1)) 2000) : Int).toNat ≤ 35184372088832 then (hamperlaw13_TableOne.l0 k (wrap64 (Int.tmod (IntKind.u64.wrap (a0)) 16)) (wrap64 (Int.tmod (IntKind.u64.wrap (a1)) 2000)) (List.replicate (wrap64 (Int.tmod (IntKind.u64.wrap (a1)) 2000) : Int).toNat 0) 0) else (none)) else (none)) else (some false))
theorem hamperlaw13_TableOne.mono_l : ∀ k, (∀ y0 y1 y2 y3, LeO (hamperlaw13_TableOne.l0 k y0 y1 y2 y3) (hamperlaw13_TableOne.l0 (k + 1) y0 y1 y2 y3)) ∧ (∀ y0 y1 y2 y3 y4, LeO (hamperlaw13_TableOne.j1 k y0 y1 y2 y3 y4) (hamperlaw13_TableOne.j1 (k + 1) y0 y1 y2 y3 y4)) ∧ (∀ y0 y1 y2 y3 y4, LeO (hamperlaw13_TableOne.l1 k y0 y1 y2 y3 y4) (hamperlaw13_TableOne.l1 (k + 1) y0 y1 y2 y3 y4))
  | 0 => ⟨fun _ _ _ _ r h => by simp [hamperlaw13_TableOne.l0] at h, fun _ _ _ _ _ r h => by simp [hamperlaw13_TableOne.j1] at h, fun _ _ _ _ _ r h => by simp [hamperlaw13_TableOne.l1] at h⟩
  | k + 1 => by
    obtain ⟨ih0, ih1, ih2⟩ := hamperlaw13_TableOne.mono_l k
    refine ⟨?_, ?_, ?_⟩
    · intro y0 y1 y2 y3
      unfold hamperlaw13_TableOne.l0
      repeat' first
      | (with_reducible exact ih0 _ _ _ _)
      | (with_reducible exact ih1 _ _ _ _ _)
      | (with_reducible exact ih2 _ _ _ _ _)
      | (with_reducible exact hamperlaw13_works.mono _)
      | (with_reducible exact hamperref13_Same.mono _ _ _)
      | (with_reducible exact table_Read.mono _ _ _)
      | (with_reducible exact LeO.refl _)
      | (with_reducible exact LeO.none _)
      | (with_reducible refine LeO.ite ?_ ?_)
      | (with_reducible refine LeO.bind ?_ (fun _ => ?_))
      | exact ih0 _ _ _ _
      | exact ih1 _ _ _ _ _
      | exact ih2 _ _ _ _ _
      | exact hamperlaw13_works.mono _
      | exact hamperref13_Same.mono _ _ _
      | exact table_Read.mono _ _ _
      | exact LeO.none _
      | refine LeO.ite ?_ ?_
      | refine LeO.bind ?_ (fun _ => ?_)
    · intro y0 y1 y2 y3 y4
      unfold hamperlaw13_TableOne.j1
      repeat' first
      | (with_reducible exact ih0 _ _ _ _)
      | (with_reducible exact ih1 _ _ _ _ _)
      | (with_reducible exact ih2 _ _ _ _ _)
      | (with_reducible exact hamperlaw13_works.mono _)
      | (with_reducible exact hamperref13_Same.mono _ _ _)
      | (with_reducible exact table_Read.mono _ _ _)
      | (with_reducible exact LeO.refl _)
      | (with_reducible exact LeO.none _)
      | (with_reducible refine LeO.ite ?_ ?_)
      | (with_reducible refine LeO.bind ?_ (fun _ => ?_))
      | exact ih0 _ _ _ _
      | exact ih1 _ _ _ _ _
      | exact ih2 _ _ _ _ _
      | exact hamperlaw13_works.mono _
      | exact hamperref13_Same.mono _ _ _
      | exact table_Read.mono _ _ _
      | exact LeO.none _
      | refine LeO.ite ?_ ?_
      | refine LeO.bind ?_ (fun _ => ?_)
    · intro y0 y1 y2 y3 y4
      unfold hamperlaw13_TableOne.l1
      repeat' first
      | (with_reducible exact ih0 _ _ _ _)
      | (with_reducible exact ih1 _ _ _ _ _)
      | (with_reducible exact ih2 _ _ _ _ _)
      | (with_reducible exact hamperlaw13_works.mono _)
      | (with_reducible exact hamperref13_Same.mono _ _ _)
      | (with_reducible exact table_Read.mono _ _ _)
      | (with_reducible exact LeO.refl _)
      | (with_reducible exact LeO.none _)
      | (with_reducible refine LeO.ite ?_ ?_)
      | (with_reducible refine LeO.bind ?_ (fun _ => ?_))
      | exact ih0 _ _ _ _
      | exact ih1 _ _ _ _ _
      | exact ih2 _ _ _ _ _
      | exact hamperlaw13_works.mono _
      | exact hamperref13_Same.mono _ _ _
      | exact table_Read.mono _ _ _
      | exact LeO.none _
      | refine LeO.ite ?_ ?_
      | refine LeO.bind ?_ (fun _ => ?_)
theorem hamperlaw13_TableOne.mono : ∀ a0 a1 k, LeO (hamperlaw13_TableOne.f k a0 a1) (hamperlaw13_TableOne.f (k + 1) a0 a1) := by
  intro a0 a1 k
  obtain ⟨ih0, ih1, ih2⟩ := hamperlaw13_TableOne.mono_l k
  unfold hamperlaw13_TableOne.f
  repeat' first
      | (with_reducible exact ih0 _ _ _ _)
      | (with_reducible exact ih1 _ _ _ _ _)
      | (with_reducible exact ih2 _ _ _ _ _)
      | (with_reducible exact hamperlaw13_works.mono _)
      | (with_reducible exact hamperref13_Same.mono _ _ _)
      | (with_reducible exact table_Read.mono _ _ _)
      | (with_reducible exact LeO.refl _)
      | (with_reducible exact LeO.none _)
      | (with_reducible refine LeO.ite ?_ ?_)
      | (with_reducible refine LeO.bind ?_ (fun _ => ?_))
      | exact ih0 _ _ _ _
      | exact ih1 _ _ _ _ _
      | exact ih2 _ _ _ _ _
      | exact hamperlaw13_works.mono _
      | exact hamperref13_Same.mono _ _ _
      | exact table_Read.mono _ _ _
      | exact LeO.none _
      | refine LeO.ite ?_ ?_
      | refine LeO.bind ?_ (fun _ => ?_)
set_option maxHeartbeats 8000000 in
set_option maxRecDepth 100000 in
theorem hamperlaw13_TableOne.calls (k : Nat) (a0 : Int) (a1 : Int) (r : Bool) (w : World) (h : hamperlaw13_TableOne.f k a0 a1 = some r) :
    Calls Try.prog 8 #[.int .i64 a0, .int .i64 a1] w fun e w' => e = .returned (.bool r) ∧ Below w.heap.size w w' := by
  have HB := Aside0.mk (Below.refl w.heap.size w)
  have H : ((hamperlaw13_works.f k).bind fun t155 => (if t155 = true then (if 0 ≤ (wrap64 (Int.tmod (IntKind.u64.wrap (a1)) 2000)) then (if (wrap64 (Int.tmod (IntKind.u64.wrap (a1)) 2000) : Int).toNat ≤ 35184372088832 then (hamperlaw13_TableOne.l0 k (wrap64 (Int.tmod (IntKind.u64.wrap (a0)) 16)) (wrap64 (Int.tmod (IntKind.u64.wrap (a1)) 2000)) (List.replicate (wrap64 (Int.tmod (IntKind.u64.wrap (a1)) 2000) : Int).toNat 0) 0) else (none)) else (none)) else (some false))) = some r := h
  clear h
  replace H := Option.bind_eq_some_iff.mp H
  obtain ⟨t155, A30, H⟩ := H
  replace H : (if t155 = true then (if 0 ≤ (wrap64 (Int.tmod (IntKind.u64.wrap (a1)) 2000)) then (if (wrap64 (Int.tmod (IntKind.u64.wrap (a1)) 2000) : Int).toNat ≤ 35184372088832 then (hamperlaw13_TableOne.l0 k (wrap64 (Int.tmod (IntKind.u64.wrap (a0)) 16)) (wrap64 (Int.tmod (IntKind.u64.wrap (a1)) 2000)) (List.replicate (wrap64 (Int.tmod (IntKind.u64.wrap (a1)) 2000) : Int).toNat 0) 0) else (none)) else (none)) else (some false)) = some r := H
  have A3 := Aside0.mk A30
  clear A30
  by_cases c4 : t155 = true
  · subst c4
    have H1 : (if 0 ≤ (wrap64 (Int.tmod (IntKind.u64.wrap (a1)) 2000)) then (if (wrap64 (Int.tmod (IntKind.u64.wrap (a1)) 2000) : Int).toNat ≤ 35184372088832 then (hamperlaw13_TableOne.l0 k (wrap64 (Int.tmod (IntKind.u64.wrap (a0)) 16)) (wrap64 (Int.tmod (IntKind.u64.wrap (a1)) 2000)) (List.replicate (wrap64 (Int.tmod (IntKind.u64.wrap (a1)) 2000) : Int).toNat 0) 0) else (none)) else (none)) = some r := by rw [if_pos rfl] at H; exact H
    clear H
    have H := H1
    clear H1
    obtain ⟨ji5, hji5⟩ : ∃ j_ : Int, (wrap64 (Int.tmod (IntKind.u64.wrap (a1)) 2000)) = j_ := ⟨_, rfl⟩
    replace H : (if 0 ≤ (ji5) then (if (ji5 : Int).toNat ≤ 35184372088832 then (hamperlaw13_TableOne.l0 k (wrap64 (Int.tmod (IntKind.u64.wrap (a0)) 16)) ji5 (List.replicate (ji5 : Int).toNat 0) 0) else (none)) else (none)) = some r := by first | (rw [hji5] at H; exact H) | (simp only [hji5] at H ⊢; exact H)
    (try rw [hji5] at A3)
    have hji5w : (IntKind.i64.wrap (Int.tmod (IntKind.u64.wrap (a1)) 2000)) = ji5 := (i64_w _).trans hji5
    by_cases c6 : 0 ≤ (ji5)
    · rw [if_pos c6] at H
      have c6b0 := eq_true c6
      have c6b1 : decide (0 ≤ (ji5)) = true := decide_eq_true c6
      clear c6
      by_cases c7 : (ji5 : Int).toNat ≤ 35184372088832
      · rw [if_pos c7] at H
        have c7b0 := eq_true c7
        have c7b1 : decide ((ji5 : Int).toNat ≤ 35184372088832) = true := decide_eq_true c7
        clear c7
        obtain ⟨y156, hy156⟩ : ∃ y_ : List Int, y_ = (List.replicate (ji5 : Int).toNat 0) := ⟨_, rfl⟩
        replace H : (hamperlaw13_TableOne.l0 k (wrap64 (Int.tmod (IntKind.u64.wrap (a0)) 16)) ji5 y156 0) = some r := by first | (rw [hy156]; with_reducible exact H) | (have H2_ := (Option.bind_some _ _).symm.trans H; rw [hy156]; with_reducible exact H2_) | (have H2_ := (Option.bind_some _ _).symm.trans H; with_reducible exact H2_) | with_reducible exact H | (rw [hy156]; exact H) | exact H
        have Ny156 := Aside0.mk hy156
        clear hy156
        have H' := Aside0.mk H
        clear H
        go_enter Try.func8, Try.ntmps8
        go_wp2_with (first | ((with_reducible refine gate_callee (f := 14) rfl ?_); refine goesL_ (some 22) rfl rfl Try.func14 (by kernel_rfl) rfl #[] rfl (by (try simp only [List.map_toArray, List.map_cons, List.map_nil]); first | done | rfl | (simp only [List.length_drop, List.length_take]; rfl)) ?_; (with_reducible refine (hamperlaw13_works.calls k  true _ A3.out).mono ?_); rintro e w8 ⟨rfl, hb⟩; refine ⟨_, rfl, ?_⟩; have n0_ := Aside0.mk (below_step (by repeat (first | (with_reducible first | exact HB.out | apply below_alloc | apply pw_below_drewN | apply below_drew1) | exact HB.out)) hb); clear HB; have HB := n0_; clear n0_; (try clear hb); (try clear hb2); (try clear hk); (try clear hi)) | ((with_reducible refine gate_dst (N := 25) rfl ?_); (try (refine gate_guard (by rfl) ?_; dsimp only)); refine Kd.R_make (Kd.int .i64) _ 3 rfl (N := 25) rfl 22 _ _ rfl ji5 rfl rfl Try.underlying22 (.int .i64 0) 8 info3 rfl (by decide) (by omega) 0 (ok := fun _ => True) (okp := fun _ => True) rfl (fun _ hk => hk) trivial (of_decide_eq_true (by first | (with_reducible assumption) | assumption)) (Nat.le_trans (Nat.mul_le_mul_right _ (of_decide_eq_true (by first | (with_reducible assumption) | assumption) : ji5.toNat ≤ 35184372088832)) (by omega)) (Below.refl _ _) (Nat.le_refl _) ?_; intro v157 w9 ho10 hb hg_ hnew_; clear hg_ hnew_; (first | rw [← Ny156.out] at ho10 | (simp only [Int.reduceToNat] at ho10; rw [← Ny156.out] at ho10)); have n0_ := Aside0.mk (Kd.R_lower ho10 (below_size (by repeat (first | (with_reducible first | exact HB.out | apply below_alloc | apply pw_below_drewN | apply below_drew1) | exact HB.out)))); have n1_ := Aside0.mk (below_step (by repeat (first | (with_reducible first | exact HB.out | apply below_alloc | apply pw_below_drewN | apply below_drew1) | exact HB.out)) hb); clear HB; have HO158 := n0_; have HB := n1_; clear n0_ n1_; clear hb ho10))
        go_loopg [6] k (fun kq v6 w' => ∃ (x5_1 : List Int) (x6_1 : Int), v6 = .int .i64 x6_1 ∧ Aside0 (hamperlaw13_TableOne.l0 kq (wrap64 (Int.tmod (IntKind.u64.wrap (a0)) 16)) ji5 x5_1 x6_1 = some r) ∧ Aside0 (kq ≤ k) ∧ Aside0 (Kd.R (Kd.int .i64) 3 w' w.heap.size (fun _ => True) v157 x5_1) ∧ Aside0 (Below w.heap.size w w'))
        case atStart => exact ⟨(y156), (0), (by first | rfl | (simp; done) | (simp [*]; done)), H', ⟨Nat.le_refl _⟩, ⟨by (with_reducible repeat (first | apply Kd.R_alloc | apply Kd.R_drewN | apply Kd.R_drew)); exact HO158.out⟩, ⟨by repeat (first | (with_reducible first | exact HB.out | apply below_alloc | apply pw_below_drewN | apply below_drew1) | exact HB.out)⟩⟩
        case round =>
          clear H'
          try clear c1
          try clear p2
          try clear c4
          try clear c6
          try clear c6b0
          try clear c6b1
          try clear p6
          try clear c7
          try clear c7b0
          try clear c7b1
          try clear c8
          obtain ⟨x5_1, x6_1, rfl, HA, HK1, HO_5, HB⟩ := hrel
          cases gk with
          | zero => exact absurd HA.out (by simp [hamperlaw13_TableOne.l0])
          | succ k1 =>
            have H := HA.out
            clear HA
            simp only [hamperlaw13_TableOne.l0] at H
            by_cases c11 : x6_1 < ji5
            · rw [if_pos c11] at H
              have c11b0 : decide (x6_1 < ji5) = true := decide_eq_true c11
              clear c11
              by_cases c12 : 0 ≤ x6_1
              · rw [if_pos c12] at H
                have c12b0 : decide (0 ≤ x6_1) = true := decide_eq_true c12
                clear c12
                by_cases c13 : x6_1 < (x5_1.length : Int)
                · rw [if_pos c13] at H
                  have c13b0 : decide (x6_1 < (x5_1.length : Int)) = true := decide_eq_true c13
                  clear c13
                  obtain ⟨y159, hy159⟩ : ∃ y_ : List Int, y_ = (x5_1.set (x6_1 : Int).toNat (wrap64 (Int.tmod (IntKind.u64.wrap (a0)) 16))) := ⟨_, rfl⟩
                  replace H : (hamperlaw13_TableOne.l0 k1 (wrap64 (Int.tmod (IntKind.u64.wrap (a0)) 16)) ji5 y159 (wrap64 (x6_1 + 1))) = some r := by first | (rw [hy159]; with_reducible exact H) | (have H2_ := (Option.bind_some _ _).symm.trans H; rw [hy159]; with_reducible exact H2_) | (have H2_ := (Option.bind_some _ _).symm.trans H; with_reducible exact H2_) | with_reducible exact H | (rw [hy159]; exact H) | exact H
                  have Ny159 := Aside0.mk hy159
                  clear hy159
                  have H' := Aside0.mk H
                  clear H
                  have p14 : 0 ≤ (x6_1 : Int) := of_decide_eq_true (by first | (with_reducible assumption) | assumption)
                  have q14 : (x6_1 : Int) < ((x5_1.length : Int) : Int) := of_decide_eq_true (by first | (with_reducible assumption) | assumption)
                  obtain ⟨go14, co14, eo14, gb14, gl14, cl14, HG14⟩ := Kd.R_form HO_5.out (by omega)
                  (first | cases eo14 | (injection eo14 with ea_ en_ ec_; (first | subst ea_ | (injection ea_ with ea_; subst ea_)); subst ec_; clear en_))
                  have GB14 := Aside0.mk gb14
                  have GG14 := Aside0.mk HG14
                  clear gb14 gl14 HG14
                  obtain ⟨hx14_0, hf14_0⟩ := Kd.R_celln 0 HO_5.out (x6_1 : Int) p14 q14
                  replace p14 := eq_true p14
                  replace q14 := eq_true q14
                  have HP15 := Kd.R_putg HO_5.out (x6_1 : Int) (wrap64 (Int.tmod (IntKind.u64.wrap (a0)) 16))
                  go_wp2_with (first | ((with_reducible refine gate_store (t := 3) (p := 34) rfl ?_); refine store_event (t := 3) (p := 34) (v := ?vo_w16) (w1 := (wr.setCell ⟨go14, (x6_1 : Int).toNat, none⟩ (.int .i64 (wrap64 (Int.tmod (IntKind.u64.wrap (a0)) 16))))) ?hg ?ho ?hn ?hr ?_; (case ho => rfl); (case hg => rfl); (case hn => rfl); (case hr => first | (go_simp; done) | (go_simp; rfl)); intro w16 hw; have hg : wr.grownBy w16 (some go14) := (by rw [hw]; exact HP15.2); have hp_ : Kd.R (Kd.int .i64) 3 w16 w.heap.size (fun _ => True) (.slice (some ⟨go14, 0, none⟩) x5_1.length co14) y159 := (by rw [hw, Ny159.out]; exact HP15.1); clear HP15; have n0_ := Aside0.mk (hp_); have n1_ := Aside0.mk ((by rw [hw]; exact below_set (HB.out) GB14.out : Below w.heap.size w w16)); clear HO_5; clear HB; have HO_5 := n0_; have HB := n1_; clear n0_ n1_; clear hg hw hp_))
                  go_roundg k1
                  case measure => have := HK1.out; omega
                  case rel => exact ⟨(y159), (wrap64 (x6_1 + 1)), (by first | rfl | (simp; done) | (simp [*]; done)), H', ⟨by have := HK1.out; omega⟩, ⟨by (with_reducible repeat (first | apply Kd.R_alloc | apply Kd.R_drewN | apply Kd.R_drew)); exact HO_5.out⟩, ⟨by repeat (first | (with_reducible first | exact HB.out | apply below_alloc | apply pw_below_drewN | apply below_drew1) | exact HB.out)⟩⟩
                · rw [if_neg c13] at H
                  exact absurd H (by simp)
              · rw [if_neg c12] at H
                exact absurd H (by simp)
            · rw [if_neg c11] at H
              have c11b0 : decide (x6_1 < ji5) = false := decide_eq_false c11
              clear c11
              replace H := Option.bind_eq_some_iff.mp H
              obtain ⟨⟨t160, t161⟩, A170, H⟩ := H
              replace H : (if t161 = 0 then (hamperlaw13_TableOne.j1 k1 (wrap64 (Int.tmod (IntKind.u64.wrap (a0)) 16)) ji5 x5_1 t160 ((t160.size : Int) != (wrap64 (Int.tdiv (wrap64 (ji5 + 15)) 16)))) else (hamperlaw13_TableOne.j1 k1 (wrap64 (Int.tmod (IntKind.u64.wrap (a0)) 16)) ji5 x5_1 t160 true)) = some r := H
              have A17 := Aside0.mk A170
              clear A170
              have HC18 := Aside0.mk H
              clear H
              obtain ⟨Ao19, co19, eo19⟩ := Kd.R_slice HO_5.out
              subst eo19
              go_upto_region 11 with (first | ((with_reducible refine gate_callee (f := 9) rfl ?_); refine goesL_ (some 37) rfl rfl Try.func9 (by kernel_rfl) rfl #[.slice Ao19 x5_1.length co19] rfl (by (try simp only [List.map_toArray, List.map_cons, List.map_nil]); first | done | rfl | (simp only [List.length_drop, List.length_take]; rfl)) ?_; (with_reducible refine (Given.table_Make.calls _ _ x5_1 t160 t161 _ ?side1 ?side2 A17.out).mono ?_); (case side1 => repeat (first | exact (Kd.R_reads' HO_5.out).2.2 | (with_reducible refine Kd.C_alloc ?_ _) | (with_reducible refine Kd.C_drewN ?_ _) | (with_reducible refine Kd.C_drew ?_))); (case side2 => exact (Kd.R_reads' HO_5.out).2.1); rintro e w20 ⟨rfl, hb⟩; refine ⟨_, rfl, ?_⟩; have n0_ := Aside0.mk (Kd.R_below (by (with_reducible repeat (first | apply Kd.R_alloc | apply Kd.R_drewN | apply Kd.R_drew)); exact HO_5.out) hb); have n1_ := Aside0.mk (below_step (by repeat (first | (with_reducible first | exact HB.out | apply below_alloc | apply pw_below_drewN | apply below_drew1) | exact HB.out)) hb); clear HO_5; clear HB; have HO_5 := n0_; have HB := n1_; clear n0_ n1_; (try clear hb); (try clear hb2); (try clear hk); (try clear hi)))
              (try simp only [Act.put, List.setIfInBounds_toArray, List.set_cons_zero, List.set_cons_succ])
              go_cut [49] (fun v49 wc => ∃ (kq : Nat) (x49_17 : Bool), v49 = .bool x49_17 ∧ Aside0 (hamperlaw13_TableOne.j1 kq (wrap64 (Int.tmod (IntKind.u64.wrap (a0)) 16)) ji5 x5_1 t160 x49_17 = some r) ∧ Aside0 (kq ≤ k1) ∧ Aside0 (Kd.R (Kd.int .i64) 3 wc w.heap.size (fun _ => True) (.slice Ao19 x5_1.length co19) x5_1) ∧ Aside0 (Below w.heap.size w wc))
              case first =>
                have H := HC18.out
                clear HC18
                by_cases c21 : t161 = 0
                · rw [if_pos c21] at H
                  have c21b0 : (t161 == 0) = true := beq_iff_eq.mpr c21
                  have c21b1 : (t161 != 0) = false := bne_eq_false_iff_eq.mpr c21
                  clear c21
                  (first | rw [c21b0] | (simp only [i64_w, i32_w]; rw [c21b0]) | skip)
                  have H' := Aside0.mk H
                  clear H
                  go_wp2
                  go_meet
                  case rel => exact ⟨_, (((t160.size : Int) != (wrap64 (Int.tdiv (wrap64 (ji5 + 15)) 16)))), (by first | rfl | (simp; done) | (simp only [← hji5] <;> (first | rfl | simp)) | (simp [*]; done)), H', ⟨by have := HK1.out; first | omega | exact Nat.le_refl _⟩, ⟨by (with_reducible repeat (first | apply Kd.R_alloc | apply Kd.R_drewN | apply Kd.R_drew)); exact HO_5.out⟩, ⟨by repeat (first | (with_reducible first | exact HB.out | apply below_alloc | apply pw_below_drewN | apply below_drew1) | exact HB.out)⟩⟩
                · rw [if_neg c21] at H
                  have c21b0 : (t161 == 0) = false := beq_eq_false_iff_ne.mpr c21
                  have c21b1 : (t161 != 0) = true := bne_iff_ne.mpr c21
                  (first | rw [c21b0] | (simp only [i64_w, i32_w]; rw [c21b0]) | skip)
                  have H' := Aside0.mk H
                  clear H
                  go_wp2
                  go_meet
                  case rel => exact ⟨_, (true), (by first | rfl | (simp; done) | (simp [*]; done)), H', ⟨by have := HK1.out; first | omega | exact Nat.le_refl _⟩, ⟨by (with_reducible repeat (first | apply Kd.R_alloc | apply Kd.R_drewN | apply Kd.R_drew)); exact HO_5.out⟩, ⟨by repeat (first | (with_reducible first | exact HB.out | apply below_alloc | apply pw_below_drewN | apply below_drew1) | exact HB.out)⟩⟩
              case rest =>
                clear HC18
                try clear c1
                try clear p1
                try clear q1
                try clear hx1
                try clear c2
                try clear p2
                try clear c4
                try clear c6
                try clear c6b0
                try clear c6b1
                try clear p6
                try clear c7
                try clear c7b0
                try clear c7b1
                try clear c8
                try clear c9
                try clear c11
                try clear c11b0
                try clear c12
                try clear c12b0
                try clear c13
                try clear c13b0
                try clear c14
                try clear p14
                try clear q14
                try clear hx14
                try clear hf14
                try clear c21
                try clear c21b0
                try clear c21b1
                try clear hx14_0
                try clear p14
                try clear p2
                try clear p6
                try clear q14
                obtain ⟨kq, x49_17, rfl, HA, HJ17, HO_5, HB⟩ := hcut
                cases kq with
                | zero => exact absurd HA.out (by simp [hamperlaw13_TableOne.j1])
                | succ kj17 =>
                  have H := HA.out
                  clear HA
                  simp only [hamperlaw13_TableOne.j1] at H
                  by_cases c22 : x49_17 = true
                  · subst c22
                    have H1 : (some false) = some r := by rw [if_pos rfl] at H; exact H
                    clear H
                    have H := H1
                    clear H1
                    obtain rfl := Option.some.inj H
                    go_wp2
                    go_ret
                    exact ⟨by first | rfl | (simp [errW_none, errW_some] <;> rfl) | (simp only [← hji5]; first | rfl | (simp [errW_none, errW_some] <;> rfl)) | (simp [*, errW_none, errW_some] <;> rfl), by repeat (first | (with_reducible first | exact HB.out | apply below_alloc | apply pw_below_drewN | apply below_drew1) | exact HB.out)⟩
                  · replace c22 := Bool.eq_false_iff.mpr c22
                    subst c22
                    have H1 : (hamperlaw13_TableOne.l1 kj17 (wrap64 (Int.tmod (IntKind.u64.wrap (a0)) 16)) ji5 x5_1 t160 0) = some r := by rw [if_neg (show ¬ (false = true) by decide)] at H; exact H
                    clear H
                    have H := H1
                    clear H1
                    have H' := Aside0.mk H
                    clear H
                    go_wp2
                    go_loopg [9] kj17 (fun kq v9 w' => ∃ (x9_3 : Int), v9 = .int .i64 x9_3 ∧ Aside0 (hamperlaw13_TableOne.l1 kq (wrap64 (Int.tmod (IntKind.u64.wrap (a0)) 16)) ji5 x5_1 t160 x9_3 = some r) ∧ Aside0 (kq ≤ kj17) ∧ Aside0 (Kd.R (Kd.int .i64) 3 w' w.heap.size (fun _ => True) (.slice Ao19 x5_1.length co19) x5_1) ∧ Aside0 (Below w.heap.size w w'))
                    case atStart => exact ⟨(0), (by first | rfl | (simp; done) | (simp [*]; done)), H', ⟨Nat.le_refl _⟩, ⟨by (with_reducible repeat (first | apply Kd.R_alloc | apply Kd.R_drewN | apply Kd.R_drew)); exact HO_5.out⟩, ⟨by repeat (first | (with_reducible first | exact HB.out | apply below_alloc | apply pw_below_drewN | apply below_drew1) | exact HB.out)⟩⟩
                    case round =>
                      clear H'
                      try clear c1
                      try clear p1
                      try clear q1
                      try clear hx1
                      try clear c2
                      try clear p2
                      try clear c4
                      try clear c6
                      try clear c6b0
                      try clear c6b1
                      try clear p6
                      try clear c7
                      try clear c7b0
                      try clear c7b1
                      try clear c8
                      try clear c9
                      try clear c11
                      try clear c11b0
                      try clear c12
                      try clear c12b0
                      try clear c13
                      try clear c13b0
                      try clear c14
                      try clear p14
                      try clear q14
                      try clear hx14
                      try clear hf14
                      try clear c21
                      try clear c21b0
                      try clear c21b1
                      try clear c22
                      try clear hx14_0
                      try clear p1
                      try clear p14
                      try clear p2
                      try clear p6
                      try clear q1
                      try clear q14
                      obtain ⟨x9_3, rfl, HA, HK3, HO_5, HB⟩ := hrel
                      cases gk with
                      | zero => exact absurd HA.out (by simp [hamperlaw13_TableOne.l1])
                      | succ k3 =>
                        have H := HA.out
                        clear HA
                        simp only [hamperlaw13_TableOne.l1] at H
                        by_cases c23 : x9_3 < (t160.size : Int)
                        · rw [if_pos c23] at H
                          have c23b0 : decide (x9_3 < (t160.size : Int)) = true := decide_eq_true c23
                          clear c23
                          by_cases c24 : x9_3 = (wrap64 ((t160.size : Int) - 1))
                          · rw [if_pos c24] at H
                            have c24b0 : (x9_3 == (wrap64 ((t160.size : Int) - 1))) = true := beq_iff_eq.mpr c24
                            have c24b1 : (x9_3 != (wrap64 ((t160.size : Int) - 1))) = false := bne_eq_false_iff_eq.mpr c24
                            clear c24
                            by_cases c25 : 0 ≤ x9_3
                            · rw [if_pos c25] at H
                              have c25b0 : decide (0 ≤ x9_3) = true := decide_eq_true c25
                              clear c25
                              by_cases c27 : (wrap64 (bt t160 x9_3)) = (wrap64 ((wrap64 (16 * (wrap64 (Int.tmod (IntKind.u64.wrap (a0)) 16)))) + (Int.tmod (wrap64 (ji5 - 1)) 16)))
                              · rw [if_pos c27] at H
                                have c27b0 : ((wrap64 (bt t160 x9_3)) == (wrap64 ((wrap64 (16 * (wrap64 (Int.tmod (IntKind.u64.wrap (a0)) 16)))) + (Int.tmod (wrap64 (ji5 - 1)) 16)))) = true := beq_iff_eq.mpr c27
                                have c27b1 : ((wrap64 (bt t160 x9_3)) != (wrap64 ((wrap64 (16 * (wrap64 (Int.tmod (IntKind.u64.wrap (a0)) 16)))) + (Int.tmod (wrap64 (ji5 - 1)) 16)))) = false := bne_eq_false_iff_eq.mpr c27
                                clear c27
                                have H' := Aside0.mk H
                                clear H
                                have p26 : 0 ≤ (x9_3 : Int) := of_decide_eq_true (by first | (with_reducible assumption) | assumption)
                                have q26 : x9_3 < (t160.size : Int) := of_decide_eq_true (by first | (with_reducible assumption) | assumption)
                                have hx26 := bt_at t160 x9_3
                                replace p26 := eq_true p26
                                replace q26 := eq_true q26
                                go_wp2
                                go_roundg k3
                                case measure => have := HK1.out; have := HJ17.out; have := HK3.out; omega
                                case rel => exact ⟨(wrap64 (x9_3 + 1)), (by first | rfl | (simp; done) | (simp [*]; done)), H', ⟨by have := HK1.out; have := HJ17.out; have := HK3.out; omega⟩, ⟨by (with_reducible repeat (first | apply Kd.R_alloc | apply Kd.R_drewN | apply Kd.R_drew)); exact HO_5.out⟩, ⟨by repeat (first | (with_reducible first | exact HB.out | apply below_alloc | apply pw_below_drewN | apply below_drew1) | exact HB.out)⟩⟩
                              · rw [if_neg c27] at H
                                have c27b0 : ((wrap64 (bt t160 x9_3)) == (wrap64 ((wrap64 (16 * (wrap64 (Int.tmod (IntKind.u64.wrap (a0)) 16)))) + (Int.tmod (wrap64 (ji5 - 1)) 16)))) = false := beq_eq_false_iff_ne.mpr c27
                                have c27b1 : ((wrap64 (bt t160 x9_3)) != (wrap64 ((wrap64 (16 * (wrap64 (Int.tmod (IntKind.u64.wrap (a0)) 16)))) + (Int.tmod (wrap64 (ji5 - 1)) 16)))) = true := bne_iff_ne.mpr c27
                                obtain rfl := Option.some.inj H
                                have p26 : 0 ≤ (x9_3 : Int) := of_decide_eq_true (by first | (with_reducible assumption) | assumption)
                                have q26 : x9_3 < (t160.size : Int) := of_decide_eq_true (by first | (with_reducible assumption) | assumption)
                                have hx26 := bt_at t160 x9_3
                                replace p26 := eq_true p26
                                replace q26 := eq_true q26
                                go_wp2
                                go_ret
                                exact ⟨by first | rfl | (simp [errW_none, errW_some] <;> rfl) | (simp only [← hji5]; first | rfl | (simp [errW_none, errW_some] <;> rfl)) | (simp [*, errW_none, errW_some] <;> rfl), by repeat (first | (with_reducible first | exact HB.out | apply below_alloc | apply pw_below_drewN | apply below_drew1) | exact HB.out)⟩
                            · rw [if_neg c25] at H
                              exact absurd H (by simp)
                          · rw [if_neg c24] at H
                            have c24b0 : (x9_3 == (wrap64 ((t160.size : Int) - 1))) = false := beq_eq_false_iff_ne.mpr c24
                            have c24b1 : (x9_3 != (wrap64 ((t160.size : Int) - 1))) = true := bne_iff_ne.mpr c24
                            by_cases c28 : 0 ≤ x9_3
                            · rw [if_pos c28] at H
                              have c28b0 : decide (0 ≤ x9_3) = true := decide_eq_true c28
                              clear c28
                              by_cases c30 : (wrap64 (bt t160 x9_3)) = (wrap64 ((wrap64 (16 * (wrap64 (Int.tmod (IntKind.u64.wrap (a0)) 16)))) + 15))
                              · rw [if_pos c30] at H
                                have c30b0 : ((wrap64 (bt t160 x9_3)) == (wrap64 ((wrap64 (16 * (wrap64 (Int.tmod (IntKind.u64.wrap (a0)) 16)))) + 15))) = true := beq_iff_eq.mpr c30
                                have c30b1 : ((wrap64 (bt t160 x9_3)) != (wrap64 ((wrap64 (16 * (wrap64 (Int.tmod (IntKind.u64.wrap (a0)) 16)))) + 15))) = false := bne_eq_false_iff_eq.mpr c30
                                clear c30
                                have H' := Aside0.mk H
                                clear H
                                have p29 : 0 ≤ (x9_3 : Int) := of_decide_eq_true (by first | (with_reducible assumption) | assumption)
                                have q29 : x9_3 < (t160.size : Int) := of_decide_eq_true (by first | (with_reducible assumption) | assumption)
                                have hx29 := bt_at t160 x9_3
                                replace p29 := eq_true p29
                                replace q29 := eq_true q29
                                go_wp2
                                go_roundg k3
                                case measure => have := HK1.out; have := HJ17.out; have := HK3.out; omega
                                case rel => exact ⟨(wrap64 (x9_3 + 1)), (by first | rfl | (simp; done) | (simp [*]; done)), H', ⟨by have := HK1.out; have := HJ17.out; have := HK3.out; omega⟩, ⟨by (with_reducible repeat (first | apply Kd.R_alloc | apply Kd.R_drewN | apply Kd.R_drew)); exact HO_5.out⟩, ⟨by repeat (first | (with_reducible first | exact HB.out | apply below_alloc | apply pw_below_drewN | apply below_drew1) | exact HB.out)⟩⟩
                              · rw [if_neg c30] at H
                                have c30b0 : ((wrap64 (bt t160 x9_3)) == (wrap64 ((wrap64 (16 * (wrap64 (Int.tmod (IntKind.u64.wrap (a0)) 16)))) + 15))) = false := beq_eq_false_iff_ne.mpr c30
                                have c30b1 : ((wrap64 (bt t160 x9_3)) != (wrap64 ((wrap64 (16 * (wrap64 (Int.tmod (IntKind.u64.wrap (a0)) 16)))) + 15))) = true := bne_iff_ne.mpr c30
                                obtain rfl := Option.some.inj H
                                have p29 : 0 ≤ (x9_3 : Int) := of_decide_eq_true (by first | (with_reducible assumption) | assumption)
                                have q29 : x9_3 < (t160.size : Int) := of_decide_eq_true (by first | (with_reducible assumption) | assumption)
                                have hx29 := bt_at t160 x9_3
                                replace p29 := eq_true p29
                                replace q29 := eq_true q29
                                go_wp2
                                go_ret
                                exact ⟨by first | rfl | (simp [errW_none, errW_some] <;> rfl) | (simp only [← hji5]; first | rfl | (simp [errW_none, errW_some] <;> rfl)) | (simp [*, errW_none, errW_some] <;> rfl), by repeat (first | (with_reducible first | exact HB.out | apply below_alloc | apply pw_below_drewN | apply below_drew1) | exact HB.out)⟩
                            · rw [if_neg c28] at H
                              exact absurd H (by simp)
                        · rw [if_neg c23] at H
                          have c23b0 : decide (x9_3 < (t160.size : Int)) = false := decide_eq_false c23
                          clear c23
                          replace H := Option.bind_eq_some_iff.mp H
                          obtain ⟨⟨t162, t163, t164⟩, A310, H⟩ := H
                          replace H : (if t164 = 0 then (if t163 = (t160.size : Int) then ((hamperref13_Same.f k3 t162 x5_1).bind fun t167 => (some t167)) else (some false)) else (some false)) = some r := H
                          have A31 := Aside0.mk A310
                          clear A310
                          by_cases c32 : t164 = 0
                          · rw [if_pos c32] at H
                            have c32b0 : (t164 == 0) = true := beq_iff_eq.mpr c32
                            have c32b1 : (t164 != 0) = false := bne_eq_false_iff_eq.mpr c32
                            clear c32
                            by_cases c33 : t163 = (t160.size : Int)
                            · rw [if_pos c33] at H
                              have c33b0 : (t163 == (t160.size : Int)) = true := beq_iff_eq.mpr c33
                              have c33b1 : (t163 != (t160.size : Int)) = false := bne_eq_false_iff_eq.mpr c33
                              clear c33
                              replace H := Option.bind_eq_some_iff.mp H
                              obtain ⟨t167, A340, H⟩ := H
                              replace H : (some t167) = some r := H
                              have A34 := Aside0.mk A340
                              clear A340
                              obtain rfl := Option.some.inj H
                              go_wp2_with (first | ((with_reducible refine gate_callee (f := 12) rfl ?_); refine goesL_ (some 79) rfl rfl Try.func12 (by kernel_rfl) rfl #[.string t160, .int .i64 ji5] rfl (by (try simp only [List.map_toArray, List.map_cons, List.map_nil]); first | done | (simp only [hji5]; rfl) | rfl | (simp only [List.length_drop, List.length_take]; rfl)) ?_; (with_reducible refine (table_Read.calls k3 t160 ji5 t162 t163 t164 _ A31.out).mono ?_); rintro e w35 ⟨v165, rfl, ho0, hb⟩; refine ⟨_, rfl, ?_⟩; have n0_ := Aside0.mk (Kd.R_elder' (by (with_reducible repeat (first | apply Kd.R_alloc | apply Kd.R_drewN | apply Kd.R_drew)); exact HO_5.out) (Kd.R_base ho0) hb); have n1_ := Aside0.mk (Kd.R_lower (Kd.R_new' ho0 (Kd.R_lt (by (with_reducible repeat (first | apply Kd.R_alloc | apply Kd.R_drewN | apply Kd.R_drew)); exact HO_5.out))) (below_size (by repeat (first | (with_reducible first | exact HB.out | apply below_alloc | apply pw_below_drewN | apply below_drew1) | exact HB.out)))); have n2_ := Aside0.mk (below_step (by repeat (first | (with_reducible first | exact HB.out | apply below_alloc | apply pw_below_drewN | apply below_drew1) | exact HB.out)) hb); clear HO_5; clear HB; have HO_5 := n0_; have HO166 := n1_; have HB := n2_; clear n0_ n1_ n2_; (try clear hb); (try clear hb2); (try clear hk); (try clear hi); (try clear ho0); obtain ⟨Ao36, co36, eo36⟩ := Kd.R_slice HO166.out; subst eo36) | (go_at_call 11; (with_reducible refine (hamperref13_Same.calls k3 _ _ t162 _ _ x5_1 t167 _ ?side1 ?side2 ?side3 ?side4 A34.out).mono ?_); (case side1 => repeat (first | exact (Kd.R_reads' HO166.out).2.2 | (with_reducible refine Kd.C_alloc ?_ _) | (with_reducible refine Kd.C_drewN ?_ _) | (with_reducible refine Kd.C_drew ?_))); (case side2 => exact (Kd.R_reads' HO166.out).2.1); (case side3 => repeat (first | exact (Kd.R_reads' HO_5.out).2.2 | (with_reducible refine Kd.C_alloc ?_ _) | (with_reducible refine Kd.C_drewN ?_ _) | (with_reducible refine Kd.C_drew ?_))); (case side4 => exact (Kd.R_reads' HO_5.out).2.1); rintro e w' ⟨rfl, ⟨nd, rfl⟩⟩))
                              go_ret
                              exact ⟨by first | rfl | (simp [errW_none, errW_some] <;> rfl) | (simp only [← hji5]; first | rfl | (simp [errW_none, errW_some] <;> rfl)) | (simp [*, errW_none, errW_some] <;> rfl), by repeat (first | (with_reducible first | exact HB.out | apply below_alloc | apply pw_below_drewN | apply below_drew1) | exact HB.out)⟩
                            · rw [if_neg c33] at H
                              have c33b0 : (t163 == (t160.size : Int)) = false := beq_eq_false_iff_ne.mpr c33
                              have c33b1 : (t163 != (t160.size : Int)) = true := bne_iff_ne.mpr c33
                              obtain rfl := Option.some.inj H
                              go_wp2_with (first | ((with_reducible refine gate_callee (f := 12) rfl ?_); refine goesL_ (some 79) rfl rfl Try.func12 (by kernel_rfl) rfl #[.string t160, .int .i64 ji5] rfl (by (try simp only [List.map_toArray, List.map_cons, List.map_nil]); first | done | (simp only [hji5]; rfl) | rfl | (simp only [List.length_drop, List.length_take]; rfl)) ?_; (with_reducible refine (table_Read.calls k3 t160 ji5 t162 t163 t164 _ A31.out).mono ?_); rintro e w37 ⟨v165, rfl, ho0, hb⟩; refine ⟨_, rfl, ?_⟩; have n0_ := Aside0.mk (Kd.R_elder' (by (with_reducible repeat (first | apply Kd.R_alloc | apply Kd.R_drewN | apply Kd.R_drew)); exact HO_5.out) (Kd.R_base ho0) hb); have n1_ := Aside0.mk (Kd.R_lower (Kd.R_new' ho0 (Kd.R_lt (by (with_reducible repeat (first | apply Kd.R_alloc | apply Kd.R_drewN | apply Kd.R_drew)); exact HO_5.out))) (below_size (by repeat (first | (with_reducible first | exact HB.out | apply below_alloc | apply pw_below_drewN | apply below_drew1) | exact HB.out)))); have n2_ := Aside0.mk (below_step (by repeat (first | (with_reducible first | exact HB.out | apply below_alloc | apply pw_below_drewN | apply below_drew1) | exact HB.out)) hb); clear HO_5; clear HB; have HO_5 := n0_; have HO166 := n1_; have HB := n2_; clear n0_ n1_ n2_; (try clear hb); (try clear hb2); (try clear hk); (try clear hi); (try clear ho0)))
                              go_ret
                              exact ⟨by first | rfl | (simp [errW_none, errW_some] <;> rfl) | (simp only [← hji5]; first | rfl | (simp [errW_none, errW_some] <;> rfl)) | (simp [*, errW_none, errW_some] <;> rfl), by repeat (first | (with_reducible first | exact HB.out | apply below_alloc | apply pw_below_drewN | apply below_drew1) | exact HB.out)⟩
                          · rw [if_neg c32] at H
                            have c32b0 : (t164 == 0) = false := beq_eq_false_iff_ne.mpr c32
                            have c32b1 : (t164 != 0) = true := bne_iff_ne.mpr c32
                            obtain rfl := Option.some.inj H
                            go_wp2_with (first | ((with_reducible refine gate_callee (f := 12) rfl ?_); refine goesL_ (some 79) rfl rfl Try.func12 (by kernel_rfl) rfl #[.string t160, .int .i64 ji5] rfl (by (try simp only [List.map_toArray, List.map_cons, List.map_nil]); first | done | (simp only [hji5]; rfl) | rfl | (simp only [List.length_drop, List.length_take]; rfl)) ?_; (with_reducible refine (table_Read.calls k3 t160 ji5 t162 t163 t164 _ A31.out).mono ?_); rintro e w38 ⟨v165, rfl, ho0, hb⟩; refine ⟨_, rfl, ?_⟩; have n0_ := Aside0.mk (Kd.R_elder' (by (with_reducible repeat (first | apply Kd.R_alloc | apply Kd.R_drewN | apply Kd.R_drew)); exact HO_5.out) (Kd.R_base ho0) hb); have n1_ := Aside0.mk (Kd.R_lower (Kd.R_new' ho0 (Kd.R_lt (by (with_reducible repeat (first | apply Kd.R_alloc | apply Kd.R_drewN | apply Kd.R_drew)); exact HO_5.out))) (below_size (by repeat (first | (with_reducible first | exact HB.out | apply below_alloc | apply pw_below_drewN | apply below_drew1) | exact HB.out)))); have n2_ := Aside0.mk (below_step (by repeat (first | (with_reducible first | exact HB.out | apply below_alloc | apply pw_below_drewN | apply below_drew1) | exact HB.out)) hb); clear HO_5; clear HB; have HO_5 := n0_; have HO166 := n1_; have HB := n2_; clear n0_ n1_ n2_; (try clear hb); (try clear hb2); (try clear hk); (try clear hi); (try clear ho0)))
                            go_ret
                            exact ⟨by first | rfl | (simp [errW_none, errW_some] <;> rfl) | (simp only [← hji5]; first | rfl | (simp [errW_none, errW_some] <;> rfl)) | (simp [*, errW_none, errW_some] <;> rfl), by repeat (first | (with_reducible first | exact HB.out | apply below_alloc | apply pw_below_drewN | apply below_drew1) | exact HB.out)⟩
      · rw [if_neg c7] at H
        exact absurd H (by simp)
    · rw [if_neg c6] at H
      exact absurd H (by simp)
  · replace c4 := Bool.eq_false_iff.mpr c4
    subst c4
    have H1 : (some false) = some r := by rw [if_neg (show ¬ (false = true) by decide)] at H; exact H
    clear H
    have H := H1
    clear H1
    obtain rfl := Option.some.inj H
    go_enter Try.func8, Try.ntmps8
    go_wp2_with (first | ((with_reducible refine gate_callee (f := 14) rfl ?_); refine goesL_ (some 22) rfl rfl Try.func14 (by kernel_rfl) rfl #[] rfl (by (try simp only [List.map_toArray, List.map_cons, List.map_nil]); first | done | rfl | (simp only [List.length_drop, List.length_take]; rfl)) ?_; (with_reducible refine (hamperlaw13_works.calls k  false _ A3.out).mono ?_); rintro e w39 ⟨rfl, hb⟩; refine ⟨_, rfl, ?_⟩; have n0_ := Aside0.mk (below_step (by repeat (first | (with_reducible first | exact HB.out | apply below_alloc | apply pw_below_drewN | apply below_drew1) | exact HB.out)) hb); clear HB; have HB := n0_; clear n0_; (try clear hb); (try clear hb2); (try clear hk); (try clear hi)))
    go_ret
    exact ⟨by first | rfl | (simp [errW_none, errW_some] <;> rfl) | (simp [*, errW_none, errW_some] <;> rfl), by repeat (first | (with_reducible first | exact HB.out | apply below_alloc | apply pw_below_drewN | apply below_drew1) | exact HB.out)⟩

/-- THE ONE PURE STATEMENT of hamperlaw13_TableOne: yours. -/
def hamperlaw13_TableOne.Pure : Prop := ∀ (a0 : Int) (a1 : Int), (Lit.int .i64 a0).wf = true → (Lit.int .i64 a1).wf = true → ∃ k, hamperlaw13_TableOne.f k a0 a1 = some true
theorem hamperlaw13_TableOne.walk (P : hamperlaw13_TableOne.Pure) (a0 : Int) (a1 : Int) (w : World) (w0 : (Lit.int .i64 a0).wf = true) (w1 : (Lit.int .i64 a1).wf = true) :
    Calls Try.prog 8 #[.int .i64 a0, .int .i64 a1] w fun e w' => e = .returned (.bool true) ∧ Below w.heap.size w w' := by
  obtain ⟨k, h⟩ := P a0 a1 w0 w1
  refine (hamperlaw13_TableOne.calls k a0 a1 true w h).mono ?_
  rintro e w' ⟨rfl, hd⟩
  exact ⟨rfl, hd⟩

end Go.Proofs.Ytbeejpjfijnbhaa.PTableOne
