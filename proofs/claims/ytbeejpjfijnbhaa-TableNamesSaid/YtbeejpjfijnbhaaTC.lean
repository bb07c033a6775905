/- The contract of table.Make: the bytes of the runs, or how lengths are refused. Conditions: the slice can be read, and takes fewer than 2^47 bytes. -/
import Derived.Test.YtbeejpjfijnbhaaTB
import Derived.Maps.AppendAt
namespace Go.Proofs.Ytbeejpjfijnbhaa.Given
open Go.RowKit Go.Proofs.YtbeejpjfijnbhaaW.PrintWords Go.Proofs.YtbeejpjfijnbhaaW.PrintLast Go.Proofs.YtbeejpjfijnbhaaW.PrintMore
open Go.Proofs.Ytbeejpjfijnbhaa.Range
set_option linter.unusedVariables false
set_option linter.unusedSimpArgs false
attribute [local go_sem] Oper.semAt_some

theorem runs_any (A : Option Addr) (n c : Nat) (w : World) :
    Calls Try.prog 17 #[.slice A n c] w fun e w' => e = .returned (.func (.func 20) #[] #[.pointer (some ⟨w.heap.size, 0, none⟩)]) ∧ w' = w.alloc (.cells #[.slice A n c] 22) := by
  go_enter Try.func17, Try.ntmps17
  go_wp2
  go_ret
  exact ⟨rfl, rfl⟩

def runByte (x : Int × Int) : Int := x.1 * 16 + x.2 - 1
theorem or_run {x y : Int} (h1 : 0 ≤ x) (h2 : x ≤ 15) (h3 : 0 ≤ y) (h4 : y ≤ 15) : bits .or .i64 (x * 16) y % 256 = x * 16 + y := by
  have key : ∀ a : Nat, a < 16 → ∀ b : Nat, b < 16 → bits .or .i64 ((a : Int) * 16) (b : Int) % 256 = (a : Int) * 16 + b := by decide +kernel
  obtain ⟨a, rfl⟩ := Int.eq_ofNat_of_zero_le h1
  obtain ⟨b, rfl⟩ := Int.eq_ofNat_of_zero_le h3
  exact key a (by omega) b (by omega)

theorem runs_seq (A : Option Addr) (c : Nat) (l : List Int) (w W : World) (n Bl : Nat) (hBl : w.heap.size ≤ Bl) (hr : Kd.C (Kd.int .i64) w A l.length l) (hc : l.length ≤ c)
    (hv : Var Bl (.slice A l.length c) 22 W) (hb : Below w.heap.size w W) :
    SeqBy Fence.wide n Try.prog 20 #[.pointer (some ⟨Bl, 0, none⟩)] (fun x : Int × Int => #[.int .i64 x.1, .int .i64 x.2]) (StB Bl) (fun X Y => Below w.heap.size X Y ∧ Y.heap[Bl]? = X.heap[Bl]?)
      (fun xs => xs = runsOf l.length l) (fun pre x => ∃ suf, runsOf l.length l = pre ++ x :: suf) W := by
  intro L J W1 hcalm hJ hY h0
  have hv1 : Var Bl (.slice A l.length c) 22 W1 := hcalm.cells hv
  have hb1 : Below w.heap.size w W1 := hb.trans (hcalm.below hb.size hb.size)
  exact (runs1_in n L Bl w hBl A c l hr hc J hJ hY W1 hv1 hb1 h0).mono fun e W' ⟨he, hj⟩ => ⟨he, _, rfl, hj⟩

theorem runsOf_mem : ∀ (f : Nat) (l : List Int), (∀ n ∈ l, badB n = false) → ∀ x ∈ runsOf f l, 0 ≤ x.1 ∧ x.1 ≤ 15 ∧ 1 ≤ x.2 ∧ x.2 ≤ 16
  | 0, _, _, x, h => by simp [runsOf] at h
  | _ + 1, [], _, x, h => by simp [runsOf] at h
  | f + 1, y :: l, hb, x, h => by
    simp only [runsOf, List.mem_cons] at h
    rcases h with rfl | h
    · have := hb y (by simp)
      simp [badB] at this
      have := runLen_le y 15 l
      dsimp only
      omega
    · exact runsOf_mem f _ (fun n hn => hb n (List.mem_cons_of_mem _ (List.mem_of_mem_drop hn))) x h
theorem runsOf_length : ∀ (f : Nat) (l : List Int), (runsOf f l).length ≤ l.length
  | 0, _ => by simp [runsOf]
  | _ + 1, [] => by simp [runsOf]
  | f + 1, y :: l => by
    have := runsOf_length f (l.drop (runLen y 15 l))
    simp [runsOf] at this ⊢
    omega

/-- Between two rounds: what was appended lies in a row of the call's own. -/
def MakeI (w : World) (pre : List (Int × Int)) (W : World) : Prop :=
  ∃ v, Var w.heap.size v 37 W ∧ W.ownsRow (w.heap.size + 2) 5 1 v pre.length ((pre.map runByte).map (Value.int .u8)) ∧ Below w.heap.size w W ∧ w.heap.size + 2 ≤ W.heap.size
theorem MakeI.move {w A B : World} {pre : List (Int × Int)} (h : MakeI w pre A) (hb : Below w.heap.size A B) (hk : ∀ (k : Nat) cs t fr, k ≠ w.heap.size + 1 → A.heap[k]? = some (.cells cs t fr) → B.heap[k]? = some (.cells cs t fr)) : MakeI w pre B := by
  obtain ⟨v, h1, h2, h3, h4⟩ := h
  refine ⟨v, hk _ _ _ _ (by omega) h1, own_move h2 (fun k e => ?_), h3.trans hb, Nat.le_trans h4 hb.size⟩
  obtain ⟨cells, hc⟩ := own_typed h2 k e
  have := own_base h2 k e
  rw [hc]
  exact hk _ _ _ _ (by omega) hc
theorem MakeI.calm {w w2 A B : World} {pre : List (Int × Int)} (hw : w.heap.size + 2 ≤ w2.heap.size) (h : MakeI w pre A) (hc : Range.Calm w2.heap.size A B) : MakeI w pre B := by
  have hs : w.heap.size + 2 ≤ A.heap.size := by obtain ⟨v, _, _, _, h4⟩ := h; exact h4
  exact h.move (hc.below (by omega) (by omega)) (fun k cs t fr _ e => hc.cells e)
theorem MakeI.st {w A B : World} {pre : List (Int × Int)} (h : MakeI w pre A) (hst : StB (w.heap.size + 1) A B) : MakeI w pre B :=
  h.move ⟨hst.os, hst.tape, hst.output, by rw [hst.size]; exact Nat.le_refl _, fun k hk => hst.block k (by omega)⟩ (fun k cs t fr hk e => (hst.block k hk).trans e)

theorem grown_var {w W w1 : World} {v : Value} {n : Nat} {xs : List Value} {o : Obj} {j : Nat} {v0 : Value} {t : TypeId} (hj : j < w.heap.size + 2) (hv : Var j v0 t W) (hown : W.ownsRow (w.heap.size + 2) 5 1 v n xs)
    (hg : (W.alloc o).grownBy w1 v.ownBlock) : Var j v0 t w1 := by
  have hlt := hv.lt
  refine (hg.block j (by simp; omega) (fun e => ?_)).trans ((Below.heap_alloc W o j hlt).trans hv)
  have := own_base hown j e.symm
  omega
theorem make_round {w w2 W w1 : World} {v v' : Value} {pre : List (Int × Int)} {x : Int × Int} {o : Obj} (hw2 : w2.heap.size = w.heap.size + 2) (hv : Var w.heap.size v 37 W)
    (hown : W.ownsRow (w.heap.size + 2) 5 1 v pre.length ((pre.map runByte).map (Value.int .u8))) (hb : Below w.heap.size w W) (hs : w.heap.size + 2 ≤ W.heap.size)
    (hown' : w1.ownsRow (w.heap.size + 2) 5 1 v' (pre.length + 1) (((pre.map runByte).map (Value.int .u8)) ++ [.int .u8 (runByte x)])) (hg : (W.alloc o).grownBy w1 v.ownBlock) :
    Others w2.heap.size W (w1.setCell ⟨w.heap.size, 0, none⟩ v') ∧
    (Below w.heap.size W (w1.setCell ⟨w.heap.size, 0, none⟩ v') ∧ (w1.setCell ⟨w.heap.size, 0, none⟩ v').heap[w.heap.size + 1]? = W.heap[w.heap.size + 1]?) ∧
    MakeI w (pre ++ [x]) (w1.setCell ⟨w.heap.size, 0, none⟩ v') := by
  have hbW : Below w.heap.size W w1 := ((Below.refl _ W).alloc (by omega) o).grown hg (by simp; omega) (fun k e => by have := own_base hown k e; omega)
  have hV1 := grown_var (by omega) hv hown hg
  refine ⟨⟨?_, fun k ob hk e hc => ?_⟩, ⟨hbW.setCell (Nat.le_refl _) _, ?_⟩, ?_⟩
  · have := hg.size
    simp [World.setCell] at this ⊢
    omega
  · have hlt := (Array.getElem?_eq_some_iff.1 e).1
    rw [Below.heap_setCell _ _ _ _ (by show k ≠ w.heap.size; omega)]
    refine (hg.block k (by simp; omega) (fun e2 => ?_)).trans ((Below.heap_alloc W o k hlt).trans e)
    obtain ⟨cells, hcc⟩ := own_typed hown k e2.symm
    rw [e] at hcc
    cases hcc
    cases hc
  · rw [Below.heap_setCell _ _ _ _ (by show w.heap.size + 1 ≠ w.heap.size; omega)]
    refine (hg.block (w.heap.size + 1) (by simp; omega) (fun e2 => ?_)).trans (Below.heap_alloc W o _ (by omega))
    have := own_base hown _ e2.symm
    omega
  · refine ⟨v', hV1.set v', ?_, (hb.trans hbW).setCell (Nat.le_refl _) _, ?_⟩
    · refine ownsRow_setCell_below ?_ (by show w.heap.size < w.heap.size + 2; omega) _
      simpa using hown'
    · have := hg.size
      simp [World.setCell] at this ⊢
      omega

set_option maxHeartbeats 1000000 in
set_option maxRecDepth 100000 in
theorem make_ok (A : Option Addr) (c : Nat) (l : List Int) (w : World) (hr : Kd.C (Kd.int .i64) w A l.length l) (hc : l.length ≤ c) (hlen : l.length ≤ 140737488351232)
    (hbad : l.any badB = false) :
    Calls Try.prog 9 #[.slice A l.length c] w fun e w' => e = .returned (.tuple #[.string (strOfNums ((runsOf l.length l).map runByte)), .int .i64 0]) ∧ Below w.heap.size w w' := by
  refine callsIn_wide (n := 6) |>.1 ?_
  refine callsIn_of_wp_marks Try.func9 rfl trivial ?_ rfl
  simp only [Try.ntmps9, List.size_toArray, List.length_cons, List.length_nil, Nat.reduceAdd, Nat.reduceSub, Array.replicate_succ, Array.replicate_zero, List.push_toArray, List.append_toArray, List.nil_append, List.cons_append]
  have HR := Aside0.mk hr
  have HBAD := Aside0.mk hbad
  clear hr hbad
  gi_wp2_with (first | (refine ⟨trivial, ?_⟩; gi_at_call 15; refine (callsIn_wide.2 (contains_any A c l _ HR.out hc (Kd.C_max HR.out))).mono ?_; rintro e w' ⟨rfl, rfl⟩; rw [HBAD.out]) | (refine ⟨trivial, ?_⟩; gi_at_call 17; refine (callsIn_wide.2 (runs_any _ _ _ _)).mono ?_; rintro e w' ⟨rfl, rfl⟩))
  obtain ⟨w2, hw2⟩ : ∃ w2, w2 = ((w.alloc (Obj.cells #[Value.slice none 0 0] 37)).alloc (Obj.cells #[Value.slice A l.length c] 22)) := ⟨_, rfl⟩
  rw [← hw2]
  have hsz : w2.heap.size = w.heap.size + 2 := by rw [hw2]; simp
  have hbel : Below w.heap.size w w2 := by rw [hw2]; exact ((Below.refl _ _).alloc (Nat.le_refl _) _).alloc (by simp) _
  have hv0 : Var w.heap.size (.slice none 0 0) 37 w2 := by rw [hw2]; exact heap_alloc2_old w _ _
  have hv1 : Var (w.heap.size + 1) (.slice A l.length c) 22 w2 := by rw [hw2]; exact heap_alloc2_new w _ _
  have HSZ := Aside0.mk hsz
  have HBEL := Aside0.mk hbel
  have HV0 := Aside0.mk hv0
  have HV1 := Aside0.mk hv1
  have HMEM : Aside0 (∀ x ∈ runsOf l.length l, 0 ≤ x.1 ∧ x.1 ≤ 15 ∧ 1 ≤ x.2 ∧ x.2 ≤ 16) := ⟨runsOf_mem _ _ (by simpa using HBAD.out)⟩
  have HLEN : Aside0 ((runsOf l.length l).length ≤ l.length) := ⟨runsOf_length _ _⟩
  clear hw2 hsz hbel hv0 hv1
  refine wp_rangeBy rfl (by omega) (gf := 20) (lb := #[.pointer (some ⟨w.heap.size + 1, 0, none⟩)]) rfl trivial (enters_of Try.func20 (by kernel_rfl) rfl)
    (runs_seq A c l w w2 _ (w.heap.size + 1) (by omega) HR.out hc HV1.out HBEL.out)
    ?hSt (fun h k => ⟨h.1.trans k.1, k.2.trans h.2⟩) ?hKb (fun _ => rfl) (MakeI w) (fun s X Y h hc => h.calm (by rw [HSZ.out]; exact Nat.le_refl _) hc) (fun s X Y h hs => h.st hs) ?h0
    (fun x => { tmps := #[Value.slice A l.length c, undef, Value.string { data := #[] }, Value.int IntKind.i64 0,
          Value.pointer (some { block := w.heap.size, off := 0 }), .int .i64 x.1, .int .i64 x.2, Value.slice A l.length c,
          Value.bool false, Value.slice A l.length c,
          Value.func (Fn.func 20) #[] #[Value.pointer (some { block := w.heap.size + 1, off := 0 })], .int .i64 x.1, .int .i64 x.2,
          undef, undef, undef, undef, undef, undef, undef, undef, undef, undef, undef], defers := [] }) ?assign ?body ?done
  case hSt =>
    intro X Y h
    refine ⟨by rw [h.size]; exact Nat.le_refl _, fun k o hk e _ => ?_⟩
    have := HSZ.out
    exact (h.block k (by omega)).trans e
  case hKb =>
    intro X Y hX h
    have := HSZ.out
    refine ⟨h.below (by omega) (by omega), ?_⟩
    have hlt : w.heap.size + 1 < X.heap.size := by omega
    have e : X.heap[w.heap.size + 1]? = some X.heap[w.heap.size + 1] := Array.getElem?_eq_getElem hlt
    rw [e]
    exact h.same _ _ e (.inr (by omega))
  case h0 => exact ⟨_, HV0.out, World.ownsRow_nil _ _ _ _, HBEL.out, by rw [HSZ.out]; exact Nat.le_refl _⟩
  case assign =>
    intro L x W K hK
    gi_wp2
    exact hK
  case body =>
    rintro L pre x W ⟨v, hv, hown, hbel, hsz⟩ ⟨suf, hsuf⟩
    have hx := HMEM.out x (by rw [hsuf]; simp)
    have hl := HLEN.out
    rw [hsuf] at hl
    simp only [List.length_append, List.length_cons] at hl
    obtain ⟨x1, x2⟩ := x
    dsimp only at hx ⊢
    obtain ⟨hx1, hx2, hx3, hx4⟩ := hx
    have hcell := hv.cell
    have hfz := hv.frozen
    obtain ⟨i0, hi, hz0, hz1, hz2⟩ := info_parts info5
    have hor : bits .or .i64 (x1 * 16) (x2 - 1) % 256 = runByte (x1, x2) := by rw [or_run hx1 hx2 (by omega) (by omega)]; simp only [runByte]; omega
    have HI := Aside0.mk hi
    have HZ := Aside0.mk (And.intro hz0 (And.intro hz1 hz2))
    have HOWN := Aside0.mk hown
    have HVV := Aside0.mk hv
    have HB1 := Aside0.mk hbel
    clear hi hz0 hz1 hz2 hown hv hbel
    gi_wp2_with (gi_at_builtin; refine wpListIn_append_own _ rfl _ _ 37 rfl (w.heap.size + 2) 5 i0 (.int .u8 0) 1 1 Try.underlying37 HI.out HZ.out.1 HZ.out.2.1 HZ.out.2.2 rfl (by decide) _ _ _ rfl (HOWN.out.alloc _) ⟨W.heap.size, 0, none⟩ 1 1 [.int .u8 (runByte (x1, x2))] rfl rfl (cell_one_new _ _ _) (by simp [Value.oneCell']) (by unfold maxLen; omega) (by omega) (by simp; omega) ?_; intro v' w1 hown' hgrow _; obtain ⟨g', cap', rfl⟩ := ownsRow_succ hown'; have hV1 := grown_var (by omega) HVV.out HOWN.out hgrow; have hc1 := hV1.cell; have hf1 := hV1.frozen)
    exact make_round HSZ.out HVV.out HOWN.out HB1.out hsz hown' hgrow
  case done =>
    rintro D xs W hD rfl ⟨v, hv, hown, hbel, hsz⟩ hK
    have hcell := hv.cell
    have hconv := own_string (P := Try.prog) (w := W) Try.underlying37 Try.underlying5 Try.underlying9 (xs := (runsOf l.length l).map runByte) hown
    gi_wp2
    refine ⟨by simp, .inl ⟨_, _, rfl, run_takeDeferred hK, ?_⟩⟩
    refine ⟨_, results_tmp2 rfl _ _ _, rfl, ?_⟩
    have := HSZ.out
    exact hbel.trans (belowK_b (w := w) (Nat.le_refl _) W D _ _ (by omega) hK rfl rfl)

theorem make_bad (A : Option Addr) (c : Nat) (l : List Int) (w : World) (hr : Kd.C (Kd.int .i64) w A l.length l) (hc : l.length ≤ c) (hbad : l.any badB = true) :
    Calls Try.prog 9 #[.slice A l.length c] w fun e w' => e = .returned (.tuple #[.string (⟨#[]⟩ : ByteArray), .int .i64 4]) ∧ Below w.heap.size w w' := by
  refine callsIn_wide (n := 6) |>.1 ?_
  refine callsIn_of_wp_marks Try.func9 rfl trivial ?_ rfl
  simp only [Try.ntmps9, List.size_toArray, List.length_cons, List.length_nil, Nat.reduceAdd, Nat.reduceSub, Array.replicate_succ, Array.replicate_zero, List.push_toArray, List.append_toArray, List.nil_append, List.cons_append]
  have HR := Aside0.mk hr
  have HBAD := Aside0.mk hbad
  clear hr hbad
  gi_wp2_with (first | (refine ⟨trivial, ?_⟩; gi_at_call 15; refine (callsIn_wide.2 (contains_any A c l _ HR.out hc (Kd.C_max HR.out))).mono ?_; rintro e w' ⟨rfl, rfl⟩; rw [HBAD.out]))
  exact ⟨_, results_tmp2 rfl _ _ _, rfl, Below.refl _ _⟩

/-- What table.Make tells. -/
def table_Make.f (l0 : List Int) : Option (ByteArray × Int) :=
  if l0.any badB = true then some (⟨#[]⟩, 4) else if l0.length ≤ 140737488351232 then some (strOfNums ((runsOf l0.length l0).map runByte), 0) else none
theorem table_Make.calls (A0 : Option Addr) (c0 : Nat) (l0 : List Int) (r1 : ByteArray) (r2 : Int) (w : World) (hr0 : Kd.C (Kd.int .i64) w A0 l0.length l0) (hc0 : l0.length ≤ c0) (h : table_Make.f l0 = some (r1, r2)) :
    Calls Try.prog 9 #[.slice A0 l0.length c0] w fun e w' => e = .returned (.tuple #[.string r1, .int .i64 r2]) ∧ Below w.heap.size w w' := by
  unfold table_Make.f at h
  split at h
  · rename_i hb
    simp only [Option.some.injEq, Prod.mk.injEq] at h
    obtain ⟨rfl, rfl⟩ := h
    exact make_bad A0 c0 l0 w hr0 hc0 hb
  · rename_i hb
    split at h
    · rename_i hl
      simp only [Option.some.injEq, Prod.mk.injEq] at h
      obtain ⟨rfl, rfl⟩ := h
      exact make_ok A0 c0 l0 w hr0 hc0 hl (by simpa using hb)
    · cases h
end Go.Proofs.Ytbeejpjfijnbhaa.Given
