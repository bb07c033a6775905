/- The contract of the iterator that tells runs, for every body that keeps its variable and what lay before. Conditions: the slice can be read, and is shorter than 2^63. -/
import Derived.Test.YtbeejpjfijnbhaaTA
import Derived.Test.YtbeejpjfijnbhaaRange
import Derived.Sort.LoopGhostIn
import Derived.Sort.QuietIn
namespace Go.Proofs.Ytbeejpjfijnbhaa.Given
open Go.RowKit Go.Proofs.YtbeejpjfijnbhaaW.PrintWords Go.Proofs.YtbeejpjfijnbhaaW.PrintLast Go.Proofs.YtbeejpjfijnbhaaW.PrintMore
open Go.Proofs.Ytbeejpjfijnbhaa.Range
set_option linter.unusedVariables false
set_option linter.unusedSimpArgs false
attribute [local go_sem] Oper.semAt_some

/-- How many more like x, at most k. -/
def runLen (x : Int) : Nat → List Int → Nat
  | 0, _ => 0
  | _ + 1, [] => 0
  | k + 1, y :: l => if y = x then runLen x k l + 1 else 0
theorem runLen_le (x : Int) : ∀ k l, runLen x k l ≤ k ∧ runLen x k l ≤ l.length
  | 0, l => by simp [runLen]
  | k + 1, [] => by simp [runLen]
  | k + 1, y :: l => by
    have := runLen_le x k l
    simp only [runLen]
    split <;> simp <;> omega
/-- The runs: the length, and how many. -/
def runsOf : Nat → List Int → List (Int × Int)
  | 0, _ => []
  | _ + 1, [] => []
  | f + 1, x :: l => (x, ((runLen x 15 l + 1 : Nat) : Int)) :: runsOf f (l.drop (runLen x 15 l))
theorem runsOf_more : ∀ (f g : Nat) (l : List Int), l.length ≤ f → l.length ≤ g → runsOf f l = runsOf g l
  | 0, g, l, h, _ => by
    have : l = [] := List.length_eq_zero_iff.1 (by omega)
    subst this
    cases g <;> rfl
  | f + 1, 0, l, _, h => by
    have : l = [] := List.length_eq_zero_iff.1 (by omega)
    subst this
    rfl
  | f + 1, g + 1, [], _, _ => rfl
  | f + 1, g + 1, x :: l, h1, h2 => by
    simp only [runsOf]
    simp only [List.length_cons] at h1 h2
    rw [runsOf_more f g _ (by simp; omega) (by simp; omega)]

theorem runLen_eq (x : Int) : ∀ (f : Nat) (t : List Int) (i : Nat), i ≤ f → i ≤ t.length → (∀ j, j < i → t.getD j 0 = x) → (i = f ∨ i = t.length ∨ t.getD i 0 ≠ x) → runLen x f t = i
  | 0, t, i, h, _, _, _ => by simp [runLen]; omega
  | f + 1, [], i, _, h, _, _ => by simp [runLen] at h ⊢; omega
  | f + 1, y :: t, 0, _, _, _, h => by
    have : y ≠ x := by
      rcases h with h | h | h
      · omega
      · simp at h
      · simpa using h
    simp [runLen, this]
  | f + 1, y :: t, i + 1, h1, h2, h3, h4 => by
    have hy : y = x := by simpa using h3 0 (by omega)
    have := runLen_eq x f t i (by omega) (by simpa using h2) (fun j hj => by simpa using h3 (j + 1) (by omega)) (by
      rcases h4 with h | h | h
      · exact .inl (by omega)
      · exact .inr (.inl (by simpa using h))
      · exact .inr (.inr (by simpa using h)))
    simp [runLen, hy, this]
theorem runs_step {x : Int} {tl rest : List Int} (hr : rest = x :: tl) {k : Nat} (h1 : 1 ≤ k) (h16 : k ≤ 16) (hl : k ≤ rest.length) (hall : ∀ j : Nat, j < k → rd rest j = rd rest 0)
    (hw : k = 16 ∨ (k < 16 ∧ k = rest.length) ∨ (k < 16 ∧ k < rest.length ∧ rd rest k ≠ rd rest 0)) :
    runsOf rest.length rest = (rd rest 0, (k : Int)) :: runsOf (rest.drop k).length (rest.drop k) := by
  subst hr
  obtain ⟨i, rfl⟩ : ∃ i, k = i + 1 := ⟨k - 1, by omega⟩
  have hx : rd (x :: tl) 0 = x := rfl
  have he : runLen x 15 tl = i := by
    refine runLen_eq x 15 tl i (by omega) (by simpa using hl) (fun j hj => ?_) ?_
    · have := hall (j + 1) (by omega)
      rw [hx] at this
      simpa [rd] using this
    · rcases hw with h | h | h
      · exact .inl (by omega)
      · exact .inr (.inl (by simpa using h.2))
      · refine .inr (.inr ?_)
        have := h.2.2
        rw [hx] at this
        simpa [rd] using this
  simp only [List.length_cons, runsOf, he, hx, List.drop_succ_cons]
  rw [runsOf_more tl.length (tl.drop i).length _ (by simp) (by simp)]
theorem C_drop {w : World} {ad : Addr} {xs : List Int} (h : Kd.C (Kd.int .i64) w (some ad) xs.length xs) (k : Nat) (hk : k ≤ xs.length) :
    Kd.C (Kd.int .i64) w (some (ad.add k)) (xs.drop k).length (xs.drop k) := by
  have h' := Kd.reads_of_C (enc := Value.int .i64) (d := (0 : Int)) (h1 := fun _ => rfl) h
  refine Kd.C_of_reads (enc := Value.int .i64) (d := (0 : Int)) (h1 := fun _ => rfl) ⟨rfl, by have := h'.2.1; simp; omega, fun hn => ⟨_, rfl, fun j hj => ?_⟩⟩
  simp only [List.length_drop] at hj
  obtain ⟨ad', e, hc⟩ := h'.2.2 (by omega)
  cases e
  rw [Addr.add_add, hc (k + j) (by omega)]
  simp [List.getD_eq_getElem?_getD]
theorem C_empty {w : World} (A : Option Addr) {xs : List Int} (h : xs = []) : Kd.C (Kd.int .i64) w A xs.length xs := by
  subst h
  exact ⟨rfl, by simp, fun h => absurd h (Nat.lt_irrefl 0)⟩

/-- The iterator's own steps: block Bl alone may turn. -/
structure StB (Bl : Nat) (A B : World) : Prop where
  os : B.os = A.os
  tape : B.tape = A.tape
  output : B.output = A.output
  size : B.heap.size = A.heap.size
  block : ∀ k, k ≠ Bl → B.heap[k]? = A.heap[k]?
theorem StB.refl (Bl : Nat) (A : World) : StB Bl A A := ⟨rfl, rfl, rfl, rfl, fun _ _ => rfl⟩
theorem StB.trans {Bl : Nat} {A B C : World} (h : StB Bl A B) (k : StB Bl B C) : StB Bl A C :=
  ⟨k.os.trans h.os, k.tape.trans h.tape, k.output.trans h.output, k.size.trans h.size, fun i hi => (k.block i hi).trans (h.block i hi)⟩
theorem StB.drewN (Bl : Nat) (A : World) (m : Nat) : StB Bl A (A.drewN m) := ⟨rfl, rfl, rfl, rfl, fun _ _ => rfl⟩
theorem StB.setCell (Bl : Nat) (A : World) (o : Nat) (v : Value) : StB Bl A (A.setCell ⟨Bl, o, none⟩ v) :=
  ⟨rfl, rfl, rfl, by simp [World.setCell], fun k hk => Below.heap_setCell _ _ _ _ hk⟩

def Var (Bl : Nat) (v : Value) (t : TypeId) (W : World) : Prop := W.heap[Bl]? = some (.cells #[v] t (0, 0))
theorem Var.cell {Bl : Nat} {v : Value} {t : TypeId} {W : World} (h : Var Bl v t W) : W.cell? ⟨Bl, 0, none⟩ = some v := by
  unfold Var at h
  simp [World.cell?, h]
theorem Var.frozen {Bl : Nat} {v : Value} {t : TypeId} {W : World} (h : Var Bl v t W) : W.frozen? ⟨Bl, 0, none⟩ = false := by
  unfold Var at h
  simp [World.frozen?, h]
theorem Var.set {Bl : Nat} {v : Value} {t : TypeId} {W : World} (h : Var Bl v t W) (u : Value) : Var Bl u t (W.setCell ⟨Bl, 0, none⟩ u) := by
  unfold Var at h ⊢
  have := heap_setCell_same W Bl 0 #[v] t u h
  simpa using this
theorem Var.lt {Bl : Nat} {v : Value} {t : TypeId} {W : World} (h : Var Bl v t W) : Bl < W.heap.size := (Array.getElem?_eq_some_iff.1 h).1
theorem Var.drewN {Bl : Nat} {v : Value} {t : TypeId} {W : World} (h : Var Bl v t W) (m : Nat) : Var Bl v t (W.drewN m) := h

def RunsRel (w : World) (Bl : Nat) (l : List Int) (J : List (Int × Int) → World → Prop) (k : Nat) (wr : World) : Prop :=
  ∃ (pre : List (Int × Int)) (A' : Option Addr) (c' : Nat) (rest : List Int), rest.length = k ∧ Aside0 (runsOf l.length l = pre ++ runsOf rest.length rest) ∧ Aside0 (Kd.C (Kd.int .i64) w A' rest.length rest) ∧ rest.length ≤ c' ∧ Aside0 (Var Bl (.slice A' rest.length c') 22 wr) ∧ Aside0 (Below w.heap.size w wr) ∧ Aside0 (J pre wr)
theorem runs_rel {w : World} {Bl : Nat} (hBl : w.heap.size ≤ Bl) {l : List Int} {J : List (Int × Int) → World → Prop} (HJs : Aside0 (∀ s X Y, J s X → StB Bl X Y → J s Y))
    {pre : List (Int × Int)} {rest : List Int} {x : Int} {tl : List Int} (HE : Aside0 (runsOf l.length l = pre ++ runsOf rest.length rest)) (HRE : Aside0 (rest = x :: tl)) {k : Nat} (h1 : 1 ≤ k) (h16 : k ≤ 16) (hl : k ≤ rest.length)
    (HA : Aside0 (∀ j : Nat, j < k → rd rest j = rd rest 0)) (HW : Aside0 (k = 16 ∨ (k < 16 ∧ k = rest.length) ∨ (k < 16 ∧ k < rest.length ∧ rd rest k ≠ rd rest 0)))
    {W3 wo : World} {v : Value} (HV3 : Aside0 (Var Bl v 22 W3)) (HB : Aside0 (Below w.heap.size w wo)) {m : Nat} (HB3 : Aside0 (Below w.heap.size (wo.drewN m) W3)) (HJ3 : Aside0 (J (pre ++ [(rd rest 0, (k : Int))]) W3))
    {A' : Option Addr} {c' : Nat} (hA : Kd.C (Kd.int .i64) w A' (rest.drop k).length (rest.drop k)) (hc : rest.length - k ≤ c') :
    RunsRel w Bl l J (rest.length - k) (W3.setCell ⟨Bl, 0, none⟩ (.slice A' (rest.length - k) c')) := by
  refine ⟨pre ++ [(rd rest 0, (k : Int))], A', c', rest.drop k, by simp, ⟨?_⟩, ⟨hA⟩, by simpa using hc, ⟨?_⟩, ⟨?_⟩, ⟨?_⟩⟩
  · rw [HE.out, runs_step HRE.out h1 h16 hl HA.out HW.out]; simp
  · rw [List.length_drop]; exact HV3.out.set _
  · exact ((pw_below_drewN HB.out m).trans HB3.out).setCell hBl _
  · exact HJs.out _ _ _ HJ3.out (StB.setCell _ _ _ _)

set_option maxHeartbeats 1000000 in
set_option maxRecDepth 100000 in
theorem runs1_in (n : Nat) (L Bl : Nat) (w : World) (hBl : w.heap.size ≤ Bl) (A : Option Addr) (c : Nat) (l : List Int)
    (hr : Kd.C (Kd.int .i64) w A l.length l) (hc : l.length ≤ c) (J : List (Int × Int) → World → Prop)
    (hJ : ∀ s X Y, J s X → StB Bl X Y → J s Y)
    (hY : ∀ pre x W, J pre W → (∃ suf, runsOf l.length l = pre ++ x :: suf) → YieldAt Fence.wide (n - 1) Try.prog L #[.int .i64 x.1, .int .i64 x.2] W fun e W' => e = .returned (.bool true) ∧ J (pre ++ [x]) W' ∧ Below w.heap.size W W' ∧ W'.heap[Bl]? = W.heap[Bl]?)
    (W : World) (hv : Var Bl (.slice A l.length c) 22 W) (hb : Below w.heap.size w W) (h0 : J [] W) :
    CallsIn Fence.wide n Try.prog 20 #[.func (.yield L) #[] #[], .pointer (some ⟨Bl, 0, none⟩)] W fun e W' => (∃ v, e = .returned v) ∧ J (runsOf l.length l) W' := by
  refine callsIn_of_wp Try.func20 rfl trivial ?_ rfl
  simp only [Try.ntmps20, List.size_toArray, List.length_cons, List.length_nil, Nat.reduceAdd, Nat.reduceSub, Array.replicate_succ, Array.replicate_zero, List.push_toArray, List.append_toArray, List.nil_append, List.cons_append]
  have HJs := Aside0.mk hJ
  have HY := Aside0.mk hY
  have HR0 := Aside0.mk hr
  clear hJ hY hr
  gi_wp2
  gi_loopg [] l.length (fun k wr => RunsRel w Bl l J k wr)
  case atStart => exact ⟨[], A, c, l, rfl, ⟨rfl⟩, HR0, hc, ⟨hv⟩, ⟨hb⟩, ⟨h0⟩⟩
  case round =>
    obtain ⟨pre, A', c', rest, hk, HE, HC, hc', HV, HB, HJ⟩ := hrel
    have hcell := HV.out.cell
    have hfz := HV.out.frozen
    cases rest with
    | nil =>
      simp only [List.length_nil] at hcell
      gi_wp2
      go_end0
      refine ⟨⟨_, rfl⟩, ?_⟩
      have e := HE.out
      simp [runsOf] at e
      rw [e]
      exact HJ.out
    | cons x tl =>
      obtain ⟨rest, hrest⟩ : ∃ rest, rest = x :: tl := ⟨_, rfl⟩
      rw [← hrest] at hcell HE HC HV hc' hk
      have hpos : 0 < rest.length := by rw [hrest]; simp
      have HRE := Aside0.mk hrest
      have HK := Aside0.mk hk
      clear hrest hcell hk
      have hcell := HV.out.cell
      gi_wp2
      obtain ⟨wo, rfl⟩ : ∃ wo : World, wo = wr := ⟨_, rfl⟩
      gi_loopw [3] (fun v w' => ∃ k : Nat, 1 ≤ k ∧ k ≤ 16 ∧ k ≤ rest.length ∧ v = .int .i64 k ∧ Aside0 (∀ j : Nat, j < k → rd rest j = rd rest 0) ∧ Drawn0 wo w') (fun v _ => 16 - (intOf v).toNat)
      case atStart => exact ⟨1, by omega, by omega, by omega, rfl, ⟨fun j hj => by rw [show j = 0 from by omega]; rfl⟩, Drawn0.refl _⟩
      case round =>
        obtain ⟨k, hk1, hk16, hkl, rfl, HA, ⟨m, rfl⟩⟩ := hrel
        have HCo : Aside0 (Kd.C (Kd.int .i64) wo A' rest.length rest) := ⟨Kd.C_below HC.out HB.out⟩
        obtain ⟨ad, rfl, hx0⟩ := Kd.at_int HCo.out 0 (by omega) (by omega)
        simp only [Int.toNat_zero, Addr.add_zero'] at hx0
        by_cases hgo : k < 16 ∧ k < rest.length ∧ rd rest k = rd rest 0
        · obtain ⟨g1, g2, g3⟩ := hgo
          obtain ⟨ad', e', hxk⟩ := Kd.at_int HCo.out k (by omega) (by omega)
          cases e'
          rw [Int.toNat_natCast, g3] at hxk
          have b1 : decide ((k : Int) < 16) = true := decide_eq_true (by omega)
          have b2 : decide ((k : Int) < (rest.length : Int)) = true := decide_eq_true (by omega)
          have b3 : decide (k < rest.length) = true := decide_eq_true (by omega)
          have p1 : 0 ≤ (k : Int) := by omega
          have p2 : (k : Int) < (rest.length : Int) := by omega
          have p3 : 0 < (rest.length : Int) := by omega
          have G3 := Aside0.mk g3
          clear g3
          gi_wp2
          gi_quiet (fail)
          gi_wp2
          go_roundw
          case rel => exact ⟨k + 1, by omega, by omega, by omega, by go_num, ⟨fun j hj => by
            rcases Nat.lt_or_ge j k with h | h
            · exact HA.out j h
            · rw [show j = k from by omega]; exact G3.out⟩, Drawn0.step (Drawn0.refl _) _⟩
          case measure => simp [intOf]; omega
        · have hway : (k = 16) ∨ (k < 16 ∧ k = rest.length) ∨ (k < 16 ∧ k < rest.length ∧ rd rest k ≠ rd rest 0) := by
            by_cases h1 : k < 16
            · by_cases h2 : k < rest.length
              · exact .inr (.inr ⟨h1, h2, fun h3 => hgo ⟨h1, h2, h3⟩⟩)
              · exact .inr (.inl ⟨h1, by omega⟩)
            · exact .inl (by omega)
          clear hgo
          have HW := Aside0.mk hway
          clear hway
          rcases HW.out with e1 | ⟨g1, e2⟩ | ⟨g1, g2, g3⟩
          · have b1 : decide ((k : Int) < 16) = false := decide_eq_false (by omega)
            clear e1
            gi_wp2
            gi_quiet (fail)
            obtain ⟨fn, tmps, assign, body, hy, hR⟩ := HY.out pre (rd rest 0, (k : Int)) (wo.drewN (m + nq)) (HJs.out _ _ _ HJ.out (StB.drewN _ _ _)) ⟨_, by rw [HE.out, runs_step HRE.out hk1 hk16 hkl HA.out HW.out]⟩
            dsimp only at hy
            gi_wp2
            refine ⟨fun h => (by simp [Fence.wide] at h), hR.mono ?_⟩
            rintro e W3 ⟨rfl, hJ3, hb3, hv3⟩
            have hV3 : Var Bl (.slice (some ad) rest.length c') 22 W3 := hv3.trans HV.out
            have hc3 := hV3.cell
            have hf3 := hV3.frozen
            have HJ3 := Aside0.mk hJ3
            have HB3 := Aside0.mk hb3
            have HV3 := Aside0.mk hV3
            clear hJ3 hb3 hv3 hV3
            gi_wp2
            all_goals
              go_roundg (rest.length - k)
              case measure => have := HK.out; omega
              case rel => first | exact runs_rel hBl HJs HE HRE hk1 hk16 hkl HA HW HV3 HB HB3 HJ3 (C_drop HC.out k hkl) (by omega) | exact runs_rel hBl HJs HE HRE hk1 hk16 hkl HA HW HV3 HB HB3 HJ3 (C_empty _ (List.drop_eq_nil_of_le (by omega))) (by omega)
          · have b1 : decide ((k : Int) < 16) = true := decide_eq_true (by omega)
            have b2 : decide ((k : Int) < (rest.length : Int)) = false := decide_eq_false (by omega)
            have b3 : decide (k < rest.length) = false := decide_eq_false (by omega)
            clear e2
            gi_wp2
            gi_quiet (fail)
            obtain ⟨fn, tmps, assign, body, hy, hR⟩ := HY.out pre (rd rest 0, (k : Int)) (wo.drewN (m + nq)) (HJs.out _ _ _ HJ.out (StB.drewN _ _ _)) ⟨_, by rw [HE.out, runs_step HRE.out hk1 hk16 hkl HA.out HW.out]⟩
            dsimp only at hy
            gi_wp2
            refine ⟨fun h => (by simp [Fence.wide] at h), hR.mono ?_⟩
            rintro e W3 ⟨rfl, hJ3, hb3, hv3⟩
            have hV3 : Var Bl (.slice (some ad) rest.length c') 22 W3 := hv3.trans HV.out
            have hc3 := hV3.cell
            have hf3 := hV3.frozen
            have HJ3 := Aside0.mk hJ3
            have HB3 := Aside0.mk hb3
            have HV3 := Aside0.mk hV3
            clear hJ3 hb3 hv3 hV3
            gi_wp2
            all_goals
              go_roundg (rest.length - k)
              case measure => have := HK.out; omega
              case rel => first | exact runs_rel hBl HJs HE HRE hk1 hk16 hkl HA HW HV3 HB HB3 HJ3 (C_drop HC.out k hkl) (by omega) | exact runs_rel hBl HJs HE HRE hk1 hk16 hkl HA HW HV3 HB HB3 HJ3 (C_empty _ (List.drop_eq_nil_of_le (by omega))) (by omega)
          · obtain ⟨ad', e', hxk⟩ := Kd.at_int HCo.out k (by omega) (by omega)
            cases e'
            rw [Int.toNat_natCast] at hxk
            have b1 : decide ((k : Int) < 16) = true := decide_eq_true (by omega)
            have b2 : decide ((k : Int) < (rest.length : Int)) = true := decide_eq_true (by omega)
            have b3 : decide (k < rest.length) = true := decide_eq_true (by omega)
            have b4 : (rd rest k == rd rest 0) = false := beq_eq_false_iff_ne.2 g3
            have p1 : 0 ≤ (k : Int) := by omega
            have p2 : (k : Int) < (rest.length : Int) := by omega
            have p3 : 0 < (rest.length : Int) := by omega
            have G3 := Aside0.mk g3
            clear g3
            gi_wp2
            gi_quiet (fail)
            obtain ⟨fn, tmps, assign, body, hy, hR⟩ := HY.out pre (rd rest 0, (k : Int)) (wo.drewN (m + nq)) (HJs.out _ _ _ HJ.out (StB.drewN _ _ _)) ⟨_, by rw [HE.out, runs_step HRE.out hk1 hk16 hkl HA.out HW.out]⟩
            dsimp only at hy
            gi_wp2
            refine ⟨fun h => (by simp [Fence.wide] at h), hR.mono ?_⟩
            rintro e W3 ⟨rfl, hJ3, hb3, hv3⟩
            have hV3 : Var Bl (.slice (some ad) rest.length c') 22 W3 := hv3.trans HV.out
            have hc3 := hV3.cell
            have hf3 := hV3.frozen
            have HJ3 := Aside0.mk hJ3
            have HB3 := Aside0.mk hb3
            have HV3 := Aside0.mk hV3
            clear hJ3 hb3 hv3 hV3
            gi_wp2
            all_goals
              go_roundg (rest.length - k)
              case measure => have := HK.out; omega
              case rel => first | exact runs_rel hBl HJs HE HRE hk1 hk16 hkl HA HW HV3 HB HB3 HJ3 (C_drop HC.out k hkl) (by omega) | exact runs_rel hBl HJs HE HRE hk1 hk16 hkl HA HW HV3 HB HB3 HJ3 (C_empty _ (List.drop_eq_nil_of_le (by omega))) (by omega)
end Go.Proofs.Ytbeejpjfijnbhaa.Given
