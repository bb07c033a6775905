/- The contract of cbc.Seal. Conditions: fewer than 2^47 bytes. -/
import Derived.Test.YtfbcgpgpfpnpnaaCbcD
import Derived.Shelf.RegionOpen
namespace Go.Proofs.Ytfbcgpgpfpnpnaa.Given
open Go.RowKit Go.Proofs.YtfbcgpgpfpnpnaaW.PrintWords Go.Proofs.YtfbcgpgpfpnpnaaW.PrintLast Go.Proofs.YtfbcgpgpfpnpnaaW.PrintMore
open Go.Proofs.Ytfbcgpgpfpnpnaa.Row Go.Proofs.Ytfbcgpgpfpnpnaa.Aes Go.Proofs.Ytfbcgpgpfpnpnaa.Row.At Go.Proofs.Ytfbcgpgpfpnpnaa.Cbc Go.Proofs.Ytfbcgpgpfpnpnaa.Range
set_option maxRecDepth 100000
set_option linter.unusedVariables false
set_option linter.unusedSimpArgs false
attribute [local go_sem] Oper.semAt_some
theorem blocks_seq (s : ByteArray) (w W : World) (n Bl B : Nat) (hs : s.size ≤ 140737488355328) (hv : At W Bl 9 [.string s]) :
    SeqBy Fence.wide n Try.prog 55 #[.pointer (some ⟨Bl, 0, none⟩)] (fun x : ByteArray => #[.string x]) (fun A B => B = A) (KpB B Bl)
      (fun xs => xs = blocksOf s) (fun pre x => ∃ suf, blocksOf s = pre ++ x :: suf) W := by
  intro L J W1 hcalm hJ hY h0
  exact (blocks_in n L Bl B s J hY W1 hs (at_calm hv hcalm) h0).mono fun e W' ⟨he, hj⟩ => ⟨he, _, rfl, hj⟩

/-- Between two rounds of Seal's loop: the results' variables (n0, n0 + 1), the cipher, its pointer and the error (nc, nc + 1), the builder (nc + 2), the last block (nc + 3), the iterator's variable. -/
structure SealI (w : World) (key : ByteArray) (nc g Bl : Nat) (fr : ByteArray) (st : List UInt8 × ByteArray) (W : World) : Prop where
  r1 : At W w.heap.size 9 [.string (⟨#[]⟩ : ByteArray)]
  r2 : At W (w.heap.size + 1) 23 [.int .i64 0]
  c : At W nc 22 [.pointer (some ⟨g, 0, none⟩)]
  e : At W (nc + 1) 23 [.int .i64 0]
  out : Bld w.heap.size (nc + 2) st.1 W
  last : At W (nc + 3) 9 [.string st.2]
  cip : At W g 49 (b8s (cipher key.data.toList))
  it : At W Bl 9 [.string fr]
  bel : Below w.heap.size w W
  lt : w.heap.size + 1 < nc ∧ nc + 3 < Bl ∧ w.heap.size ≤ g
variable {w W W' : World} {key fr : ByteArray} {nc g Bl : Nat} {st : List UInt8 × ByteArray}
theorem SealI.go (h : SealI w key nc g Bl fr st W) (hb : Below W.heap.size W W') : SealI w key nc g Bl fr st W' :=
  ⟨at_go h.r1 hb, at_go h.r2 hb, at_go h.c hb, at_go h.e hb, bld_below h.out hb, at_go h.last hb, at_go h.cip hb, at_go h.it hb, h.bel.trans (hb.mono h.bel.size), h.lt⟩
theorem SealI.calm (h : SealI w key nc g Bl fr st W) {B : Nat} (hc : Range.Calm B W W') (hB : w.heap.size ≤ B) : SealI w key nc g Bl fr st W' :=
  ⟨at_calm h.r1 hc, at_calm h.r2 hc, at_calm h.c hc, at_calm h.e hc, bld_calm h.out hc, at_calm h.last hc, at_calm h.cip hc, at_calm h.it hc, h.bel.trans (hc.below hB h.bel.size), h.lt⟩
/-- The last block is another one; the error is none. -/
theorem SealI.wrote (h : SealI w key nc g Bl fr st W) (hg : g ≠ nc + 3 ∧ g ≠ nc + 1) (x : ByteArray) : SealI w key nc g Bl fr (st.1, x) ((W.setCell ⟨nc + 3, 0, none⟩ (.string x)).setCell ⟨nc + 1, 0, none⟩ (.int .i64 0)) := by
  have hl := h.lt
  refine ⟨(h.r1.other _ _ (by dsimp; omega)).other _ _ (by dsimp; omega), (h.r2.other _ _ (by dsimp; omega)).other _ _ (by dsimp; omega), (h.c.other _ _ (by dsimp; omega)).other _ _ (by dsimp; omega), ?_, ?_, ?_,
    (h.cip.other _ _ (by dsimp; omega)).other _ _ (by dsimp; omega), (h.it.other _ _ (by dsimp; omega)).other _ _ (by dsimp; omega), ?_, hl⟩
  · exact (h.e.other _ _ (by dsimp; omega)).set 0 _
  · exact bld_cell (bld_cell h.out h.last (by omega) (by decide) _ _) (h.e.other _ _ (by dsimp; omega)) (by omega) (by decide) _ _
  · exact (h.last.set 0 _).other _ _ (by dsimp; omega)
  · exact (h.bel.setCell (by dsimp; omega) _).setCell (by dsimp; omega) _
theorem SealI.wrote' (h : SealI w key nc g Bl fr st W) (hg : g ≠ nc + 3 ∧ g ≠ nc + 1) (x : ByteArray) : SealI w key nc g Bl fr (st.1, x) ((W.setCell ⟨nc + 1, 0, none⟩ (.int .i64 0)).setCell ⟨nc + 3, 0, none⟩ (.string x)) := by
  have hl := h.lt
  refine ⟨(h.r1.other _ _ (by dsimp; omega)).other _ _ (by dsimp; omega), (h.r2.other _ _ (by dsimp; omega)).other _ _ (by dsimp; omega), (h.c.other _ _ (by dsimp; omega)).other _ _ (by dsimp; omega), ?_, ?_, ?_,
    (h.cip.other _ _ (by dsimp; omega)).other _ _ (by dsimp; omega), (h.it.other _ _ (by dsimp; omega)).other _ _ (by dsimp; omega), ?_, hl⟩
  · exact (h.e.set 0 _).other _ _ (by dsimp; omega)
  · exact bld_cell (bld_cell h.out h.e (by omega) (by decide) _ _) (h.last.other _ _ (by dsimp; omega)) (by omega) (by decide) _ _
  · exact (h.last.other _ _ (by dsimp; omega)).set 0 _
  · exact (h.bel.setCell (by dsimp; omega) _).setCell (by dsimp; omega) _
/-- Bytes written into the builder. -/
theorem SealI.put (h : SealI w key nc g Bl fr st W) {l : List UInt8} (hb : Bld w.heap.size (nc + 2) l W') (hbl : Below w.heap.size W W') (ho : Lib.OthersKept 5 (some (nc + 2)) W W') (hg : g ≠ nc + 2) : SealI w key nc g Bl fr (l, st.2) W' := by
  have hl := h.lt
  exact ⟨at_others h.r1 ho (by omega) (by decide), at_others h.r2 ho (by omega) (by decide), at_others h.c ho (by omega) (by decide), at_others h.e ho (by omega) (by decide), hb, at_others h.last ho (by omega) (by decide), at_others h.cip ho hg (by decide), at_others h.it ho (by omega) (by decide), h.bel.trans hbl, hl⟩
def Stp (D b : Nat) (W W' : World) : Prop := Others D W W' ∧ Below b W W'
theorem Stp.refl (D b : Nat) (W : World) : Stp D b W W := ⟨⟨Nat.le_refl _, fun k o _ e _ => e⟩, Below.refl _ _⟩
theorem Stp.go {D b : Nat} {A B C : World} (h : Stp D b A B) (hb : Below B.heap.size B C) (hB : b ≤ B.heap.size) : Stp D b A C := ⟨others_trans h.1 (others_below hb), h.2.trans (hb.mono hB)⟩
theorem Stp.draw {D b : Nat} {A B : World} (h : Stp D b A B) (hB : b ≤ B.heap.size) : Stp D b A B.drew := h.go (Below.refl _ B).drew hB
theorem Stp.cell {D b : Nat} {A B : World} (h : Stp D b A B) {g : Nat} {t : TypeId} {cs : List Value} (ha : At B g t cs) (hg : b ≤ g) (v : Value) : Stp D b A (B.setCell ⟨g, 0, none⟩ v) :=
  ⟨others_cell h.1 ⟨_, _, _, ha.heap⟩, h.2.setCell hg _⟩
theorem Stp.put {D b k : Nat} {A B C : World} (h : Stp D b A B) (hb : Below b B C) (ho : Lib.OthersKept 5 (some k) B C) (hk : ∃ cs t fr, B.heap[k]? = some (.cells cs t fr)) : Stp D b A C :=
  ⟨others_trans h.1 (others_of ho hb.size hk), h.2.trans hb⟩
theorem seal_step {D : Nat} {W5 W6 : World} {l : List UInt8} (h : SealI w key nc g Bl fr st W5) (hs : Stp D w.heap.size W W5) (hit : W.heap[Bl]? = some (.cells #[.string fr] 9 (0, 0))) (hg : g + 1 ≤ nc)
    (h2 : Bld w.heap.size (nc + 2) l W6) (hb : Below w.heap.size W5 W6) (ho : Lib.OthersKept 5 (some (nc + 2)) W5 W6) :
    Others D W W6 ∧ KpB w.heap.size Bl W W6 ∧ SealI w key nc g Bl fr (l, st.2) W6 := by
  have hI := h.put h2 hb ho (by omega)
  have hS := hs.put hb ho (bld_block h.out)
  exact ⟨hS.1, ⟨hS.2, hI.it.heap.trans hit.symm⟩, hI⟩
theorem seal_wrote {D : Nat} {W4 : World} (h : SealI w key nc g Bl fr st W4) (hs : Stp D w.heap.size W W4) (hg : g + 1 ≤ nc) (y : ByteArray) :
    SealI w key nc g Bl fr (st.1, y) ((W4.setCell ⟨nc + 1 + 1 + 1, 0, none⟩ (.string y)).setCell ⟨nc + 1, 0, none⟩ (.int .i64 0)) ∧ Stp D w.heap.size W ((W4.setCell ⟨nc + 1 + 1 + 1, 0, none⟩ (.string y)).setCell ⟨nc + 1, 0, none⟩ (.int .i64 0)) := by
  have hl := h.lt
  exact ⟨h.wrote (by omega) y, (hs.cell h.last (by omega) (.string y)).cell (h.e.other _ _ (by dsimp; omega)) (by omega) (.int .i64 0)⟩
theorem seal_wrote' {D : Nat} {W4 : World} (h : SealI w key nc g Bl fr st W4) (hs : Stp D w.heap.size W W4) (hg : g + 1 ≤ nc) (y : ByteArray) :
    SealI w key nc g Bl fr (st.1, y) ((W4.setCell ⟨nc + 1, 0, none⟩ (.int .i64 0)).setCell ⟨nc + 1 + 1 + 1, 0, none⟩ (.string y)) ∧ Stp D w.heap.size W ((W4.setCell ⟨nc + 1, 0, none⟩ (.int .i64 0)).setCell ⟨nc + 1 + 1 + 1, 0, none⟩ (.string y)) := by
  have hl := h.lt
  exact ⟨h.wrote' (by omega) y, (hs.cell h.e (by omega) (.int .i64 0)).cell (h.last.other _ _ (by dsimp; omega)) (by omega) (.string y)⟩
theorem SealI.draw (h : SealI w key nc g Bl fr st W) : SealI w key nc g Bl fr st W.drew := h.go (Below.refl _ W).drew

theorem sealI_start (w wA wF : World) (key first fr : ByteArray)
    (h1 : At wA ((w.alloc (.cells #[.string (⟨#[]⟩ : ByteArray)] 9 (0, 0))).alloc (.cells #[.int .i64 0] 23 (0, 0))).heap.size 49 (b8s (cipher key.data.toList)))
    (h2 : Below ((w.alloc (.cells #[.string (⟨#[]⟩ : ByteArray)] 9 (0, 0))).alloc (.cells #[.int .i64 0] 23 (0, 0))).heap.size ((w.alloc (.cells #[.string (⟨#[]⟩ : ByteArray)] 9 (0, 0))).alloc (.cells #[.int .i64 0] 23 (0, 0))) wA)
    (h3 : Below ((((wA.alloc (.cells #[.pointer (some ⟨w.heap.size + 1 + 1, 0, none⟩)] 22 (0, 0))).alloc (.cells #[.int .i64 0] 23 (0, 0))).alloc (.cells #[.pointer none, .slice none 0 0] 62 (0, 0))).alloc (.cells #[.string first] 9 (0, 0))).heap.size
      ((((wA.alloc (.cells #[.pointer (some ⟨w.heap.size + 1 + 1, 0, none⟩)] 22 (0, 0))).alloc (.cells #[.int .i64 0] 23 (0, 0))).alloc (.cells #[.pointer none, .slice none 0 0] 62 (0, 0))).alloc (.cells #[.string first] 9 (0, 0))) wF) :
    SealI w key wA.heap.size (w.heap.size + 1 + 1) wF.heap.size fr ([], first) (wF.alloc (.cells #[.string fr] 9 (0, 0))) := by
  have hsA : w.heap.size + 1 + 1 < wA.heap.size := by have := h1.lt; simpa using this
  have hsF : wA.heap.size + 3 < wF.heap.size := by have := h3.size; simp at this; omega
  have hb0 : Below w.heap.size w wA := (((Below.refl _ w).alloc (Nat.le_refl _) _).alloc (by simp) _).trans (h2.mono (by simp; omega))
  have q1 := ((At.new w [.string (⟨#[]⟩ : ByteArray)] 9).alloc (.cells #[.int .i64 0] 23 (0, 0))).below h2 (by simp; omega)
  have q2 := (At.newAt (w := w.alloc (.cells #[.string (⟨#[]⟩ : ByteArray)] 9 (0, 0))) (cs := [.int .i64 0]) (t := 23) (g := w.heap.size + 1) (by simp)).below h2 (by simp)
  have q3 : At wA (w.heap.size + 1 + 1) 49 (b8s (cipher key.data.toList)) := by simpa using h1
  refine ⟨(at_go ((((q1.alloc _).alloc _).alloc _).alloc _) h3).alloc _, (at_go ((((q2.alloc _).alloc _).alloc _).alloc _) h3).alloc _, ?_, ?_, ?_, ?_, (at_go ((((q3.alloc _).alloc _).alloc _).alloc _) h3).alloc _, At.newAt rfl, ?_, by omega⟩
  · exact (at_go ((((At.new wA _ _).alloc _).alloc _).alloc _) h3).alloc _
  · exact (at_go (((At.newAt (by simp)).alloc _).alloc _) h3).alloc _
  · have := freshBld ((wA.alloc (.cells #[.pointer (some ⟨w.heap.size + 1 + 1, 0, none⟩)] 22 (0, 0))).alloc (.cells #[.int .i64 0] 23 (0, 0)))
    have h4 := bld_mono (B' := w.heap.size) this (by simp; omega)
    have e : ((wA.alloc (.cells #[.pointer (some ⟨w.heap.size + 1 + 1, 0, none⟩)] 22 (0, 0))).alloc (.cells #[.int .i64 0] 23 (0, 0))).heap.size = wA.heap.size + 2 := by simp
    rw [e] at h4
    exact bld_alloc (bld_below (bld_alloc h4 _) h3) _
  · exact (at_go (At.newAt (by simp)) h3).alloc _
  · exact (((((hb0.alloc (by omega) _).alloc (by simp; omega) _).alloc (by simp; omega) _).alloc (by simp; omega) _).trans (h3.mono (by simp; omega))).alloc (by omega) _
set_option maxHeartbeats 2000000 in
theorem seal_ok (key first data : ByteArray) (w : World) (hk : key.size = 32) (hf : first.size = 16) (hd : data.size ≤ 1048576) :
    Calls Try.prog 22 #[.string key, .string first, .string data] w fun e w' => e = .returned (.tuple #[.string (bs (sealB key first (blocksOf (frameW data))).1), .int .i64 0]) ∧ Below w.heap.size w w' := by
  refine callsIn_wide (n := 6) |>.1 ?_
  refine callsIn_of_wp_marks Try.func22 rfl trivial ?_ rfl
  simp only [Try.ntmps22, List.size_toArray, List.length_cons, List.length_nil, Nat.reduceAdd, Nat.reduceSub, Array.replicate_succ, Array.replicate_zero, List.push_toArray, List.append_toArray, List.nil_append, List.cons_append]
  have HK := Aside0.mk hk
  have HF := Aside0.mk hf
  have HD := Aside0.mk hd
  have hd2 : ¬ (1048576 < (data.size : Int)) := by omega
  have hd3 : decide ((data.size : Int) > 1048576) = false := decide_eq_false (by omega)
  clear hk hf hd
  gi_wp2_with (first
    | (refine ⟨trivial, ?_⟩; gi_at_call 41; refine (callsIn_wide.2 (begin_ok key first HK.out HF.out _)).mono ?_; rintro e wA ⟨rfl, hc, hb⟩; have HC := Aside0.mk (And.intro hc hb); clear hc hb)
    | (refine ⟨trivial, ?_⟩; gi_at_call 26; refine (callsIn_wide.2 (Frame_any data _ (by have := HD.out; omega))).mono ?_; rintro e wF ⟨rfl, hb⟩; have HFr := Aside0.mk hb; clear hb)
    | (refine ⟨trivial, ?_⟩; gi_at_call 42; refine (callsIn_wide.2 (blocks_any _ _)).mono ?_; rintro e wB ⟨rfl, rfl⟩))
  obtain ⟨w2, hw2⟩ : ∃ w2, w2 = wF.alloc (.cells #[.string (frameW data)] 9 (0, 0)) := ⟨_, rfl⟩
  obtain ⟨nc, hnc⟩ : ∃ nc, nc = wA.heap.size := ⟨_, rfl⟩
  obtain ⟨Bl, hBl⟩ : ∃ Bl, Bl = wF.heap.size := ⟨_, rfl⟩
  have hgA : w.heap.size + 1 + 1 < nc := by have := HC.out.1.lt; simp at this; omega
  have hBlnc : nc + 3 < Bl := by have := HFr.out.size; simp at this; omega
  have hI := sealI_start w wA wF key first (frameW data) HC.out.1 HC.out.2 HFr.out
  rw [← hw2, ← hnc, ← hBl] at hI
  have HI := Aside0.mk hI
  rw [← hw2, ← hnc, ← hBl]
  have hsz : w2.heap.size = Bl + 1 := by rw [hw2, hBl]; simp
  have HSZ := Aside0.mk hsz
  have HGA := Aside0.mk hgA
  have HBN := Aside0.mk hBlnc
  have HFS : Aside0 ((frameW data).size ≤ 140737488355328) := ⟨by have := HD.out; rw [frameW, bs_size, frameL_length, toList_length]; unfold pad; omega⟩
  clear hw2 hnc hBl hI HFr HC hsz hgA hBlnc hd2 hd3
  refine wp_rangeBy rfl (by omega) (gf := 55) (lb := #[.pointer (some ⟨Bl, 0, none⟩)]) rfl trivial (enters_of Try.func55 (by kernel_rfl) rfl)
    (blocks_seq (frameW data) w w2 _ Bl w.heap.size HFS.out HI.out.it)
    ?hSt (fun h k => ⟨h.1.trans k.1, k.2.trans h.2⟩) ?hKb (fun _ => rfl) (fun pre W => SealI w key nc (w.heap.size + 1 + 1) Bl (frameW data) (sealB key first pre) W)
    (fun s X Y h hc => h.calm hc (by rw [HSZ.out]; have := HBN.out; have := HGA.out; omega)) (fun s X Y h hs => by rw [hs]; exact h) HI.out
    (fun x => { tmps := #[Value.string key, Value.string first, Value.string data, undef, undef, undef,
          Value.pointer (some { block := w.heap.size, off := 0 }),
          Value.pointer (some { block := w.heap.size + 1, off := 0 }),
          Value.pointer (some { block := nc, off := 0 }),
          Value.pointer (some { block := nc + 1, off := 0 }),
          Value.pointer (some { block := nc + 1 + 1, off := 0 }),
          Value.pointer (some { block := nc + 1 + 1 + 1, off := 0 }), .string x,
          Value.tuple #[Value.pointer (some { block := w.heap.size + 1 + 1, off := 0 }), Value.int IntKind.i64 0],
          Value.string key, Value.string first,
          Value.tuple #[Value.pointer (some { block := w.heap.size + 1 + 1, off := 0 }), Value.int IntKind.i64 0],
          Value.pointer (some { block := w.heap.size + 1 + 1, off := 0 }), Value.int IntKind.i64 0, Value.bool false,
          Value.int IntKind.i64 0, Value.bool false, Value.bool false, Value.string data,
          Value.int IntKind.i64 data.size, Value.bool false, Value.string first, Value.string data,
          Value.string (frameW data),
          Value.func (Fn.func 55) #[] #[Value.pointer (some { block := Bl, off := 0 })], .string x, undef, undef,
          undef, undef, undef, undef, undef, undef, undef, undef, undef, undef, undef, undef], defers := [] }) ?assign ?body ?done
  case hSt => rintro X Y rfl; exact ⟨Nat.le_refl _, fun k o _ e _ => e⟩
  case hKb =>
    intro X Y hX h
    have h1 := HSZ.out
    have h2 := HBN.out
    have h3 := HGA.out
    refine ⟨h.below (by omega) (by omega), ?_⟩
    have hlt : Bl < X.heap.size := by omega
    have e : X.heap[Bl]? = some X.heap[Bl] := Array.getElem?_eq_getElem hlt
    rw [e]
    exact h.same _ _ e (.inr (by omega))
  case assign =>
    intro L x W K hK
    gi_wp2
    exact hK
  case body =>
    rintro L pre x W hI2 ⟨suf, hsuf⟩
    obtain ⟨so, sl⟩ : ∃ st, st = sealB key first pre := ⟨_, rfl⟩
    have hx : x.size = 16 := blocksOf_size (frameW data) x (by rw [hsuf]; simp)
    have hlen := congrArg List.length hsuf
    rw [blocksOf_length, List.length_append, List.length_cons] at hlen
    obtain ⟨st, hst⟩ : ∃ st, st = sealB key first pre := ⟨_, rfl⟩
    have hst1 : st.1.length = 16 * pre.length := by rw [hst]; exact sealB_length key first pre
    have hst2 : st.2.size = 16 := by rw [hst]; exact sealB_last key first HF.out pre
    have hsnoc : sealB key first (pre ++ [x]) = sealGo key st x := by rw [sealB_snoc, hst]
    rw [← hst] at hI2
    have HI2 := Aside0.mk hI2
    have HX := Aside0.mk hx
    have HST := Aside0.mk (And.intro hst1 hst2)
    have HSN := Aside0.mk hsnoc
    have HLEN : Aside0 (16 * pre.length + 16 ≤ 140737488355328) := ⟨by have := HFS.out; omega⟩
    have hmix : Try.prog.follows .mixedOrders = true := by kernel_rfl
    have c1 := hI2.c.cell 0 _ rfl
    have c2 : W.cell? ⟨nc + 1 + 1 + 1, 0, none⟩ = some (.string st.2) := hI2.last.cell 0 _ rfl
    clear hI2 hst hst1 hst2 hsnoc hx hlen hsuf so sl
    gi_wp2
    have HIT := Aside0.mk HI2.out.it.heap
    have HO := Aside0.mk ((Stp.refl w2.heap.size w.heap.size W).draw HI2.out.bel.size)
    have n0 := Aside0.mk HI2.out.draw
    clear HI2
    have HI2 := n0
    clear n0
    gi_region_with_o (first
      | (refine ⟨trivial, ?_⟩; gi_at_call 43; refine (callsIn_round (xor_any x st.2 HX.out HST.out.2 _)).mono ?_; rintro e w3 ⟨rfl, hb⟩; have n1 := Aside0.mk (HI2.out.go hb); have n2 := Aside0.mk (HO.out.go hb HI2.out.bel.size); clear HI2 HO hb c1 c2; have HI2 := n1; have HO := n2; clear n1 n2; have c1 := HI2.out.c.cell 0 _ rfl)
      | (refine ⟨trivial, ?_⟩; gi_at_call 14; refine (callsIn_round (Encrypt_w key _ HK.out (xorW_size _ _ HX.out HST.out.2) _ _ HI2.out.cip)).mono ?_; rintro e w4 ⟨rfl, hb⟩; have n1 := Aside0.mk (HI2.out.go hb); have n2 := Aside0.mk (HO.out.go hb HI2.out.bel.size); clear HI2 HO hb c1; have HI2 := n1; have HO := n2; clear n1 n2; have f1 : w4.frozen? ⟨nc + 1 + 1 + 1, 0, none⟩ = false := HI2.out.last.frozen 0; have f2 := HI2.out.e.frozen 0; have g1 : w4.cell? ⟨nc + 1 + 1 + 1, 0, none⟩ = some (.string st.2) := HI2.out.last.cell 0 _ rfl; have g2 := HI2.out.e.cell 0 _ rfl))
    all_goals
      first
        | (have hA := seal_wrote HI2.out HO.out (by have := HGA.out; omega) (encW key (xorW x st.2)); obtain ⟨w5, hw5⟩ : ∃ w5, w5 = (w4.setCell ⟨nc + 1 + 1 + 1, 0, none⟩ (.string (encW key (xorW x st.2)))).setCell ⟨nc + 1, 0, none⟩ (.int .i64 0) := ⟨_, rfl⟩; rw [← hw5] at hA ⊢; have HW := Aside0.mk hA; clear hA hw5 HI2 HO f1 f2 g1 g2)
        | (have hA := seal_wrote' HI2.out HO.out (by have := HGA.out; omega) (encW key (xorW x st.2)); obtain ⟨w5, hw5⟩ : ∃ w5, w5 = (w4.setCell ⟨nc + 1, 0, none⟩ (.int .i64 0)).setCell ⟨nc + 1 + 1 + 1, 0, none⟩ (.string (encW key (xorW x st.2))) := ⟨_, rfl⟩; rw [← hw5] at hA ⊢; have HW := Aside0.mk hA; clear hA hw5 HI2 HO f1 f2 g1 g2)
      have d1 := HW.out.1.e.cell 0 _ rfl
      have d2 : w5.cell? ⟨nc + 1 + 1 + 1, 0, none⟩ = some (.string (encW key (xorW x st.2))) := HW.out.1.last.cell 0 _ rfl
      gi_wp2_with (refine ⟨trivial, ?_⟩; gi_at_call 44; refine (callsIn_round (writeString w.heap.size (nc + 2) st.1 (encW key (xorW x st.2)) _ HW.out.1.out (by rw [HST.out.1, encW_size]; have := HLEN.out; omega) HW.out.1.bel.size)).mono ?_; rintro e w6 ⟨rfl, h2, hb, ho⟩; have hf := Aside0.mk (seal_step HW.out.1 HW.out.2 HIT.out (by have := HGA.out; omega) h2 hb ho); clear h2 hb ho)
      exact ⟨hf.out.1, hf.out.2.1, by show SealI _ _ _ _ _ _ (sealB key first (pre ++ [x])) _; rw [HSN.out]; exact hf.out.2.2⟩
  case done =>
    rintro D xs W hD rfl hI2 hK
    have HI2 := Aside0.mk hI2
    have HKD := Aside0.mk hK
    have HDD := Aside0.mk hD
    clear hI2 hK hD
    gi_wp2_with (refine ⟨trivial, ?_⟩; gi_at_call 45; refine (callsIn_wide.2 (stringB HI2.out.out HI2.out.bel.size)).mono ?_; rintro e w6 ⟨rfl, h2, hb, ho⟩; have hK6 := ho _ _ HKD.out (by intro e; have := HSZ.out; have := HDD.out; have := HBN.out; cases e; omega) (fun _ _ e => by cases e); have n1 := Aside0.mk (HI2.out.put h2 hb ho (by have := HGA.out; omega)); clear HI2 HKD h2 hb ho; have HI2 := n1; have HKD := Aside0.mk hK6; clear n1 hK6; have c1 := HI2.out.r1.cell 0 _ rfl; have c2 := HI2.out.r2.cell 0 _ rfl; have f1 := HI2.out.r1.frozen 0; have f2 := HI2.out.r2.frozen 0)
    obtain ⟨w7, hw7⟩ : ∃ w7, w7 = (w6.setCell ⟨w.heap.size, 0, none⟩ (.string (bs (sealB key first (blocksOf (frameW data))).1))).setCell ⟨w.heap.size + 1, 0, none⟩ (.int .i64 0) := ⟨_, rfl⟩
    rw [← hw7]
    have hb7 : Below w.heap.size w w7 := by rw [hw7]; exact (HI2.out.bel.setCell (by dsimp; omega) _).setCell (by dsimp; omega) _
    have a1 : At w7 w.heap.size 9 [.string (bs (sealB key first (blocksOf (frameW data))).1)] := by rw [hw7]; exact (HI2.out.r1.set 0 _).other _ _ (by dsimp; omega)
    have a2 : At w7 (w.heap.size + 1) 23 [.int .i64 0] := by rw [hw7]; exact (HI2.out.r2.other _ _ (by dsimp; omega)).set 0 _
    have hD : w.heap.size + 1 < D := by have := HSZ.out; have := HDD.out; have := HBN.out; have := HGA.out; omega
    have hK7 : w7.heap[D]? = some (.deferred (some [])) := by
      rw [hw7, Below.heap_setCell _ _ _ _ (by dsimp; omega), Below.heap_setCell _ _ _ _ (by dsimp; omega)]
      exact HKD.out
    refine ⟨by simp, .inl ⟨_, _, rfl, run_takeDeferred hK7, ?_⟩⟩
    have hb8 : Below w7.heap.size w7 (w7.putObj D (.deferred none)) → True := fun _ => trivial
    have k1 : ∀ o, At (w7.putObj D o) w.heap.size 9 [.string (bs (sealB key first (blocksOf (frameW data))).1)] := fun o => ⟨(World.putObj_heap_other (by omega)).trans a1.heap⟩
    have k2 : ∀ o, At (w7.putObj D o) (w.heap.size + 1) 23 [.int .i64 0] := fun o => ⟨(World.putObj_heap_other (by omega)).trans a2.heap⟩
    refine ⟨_, res_se rfl _ _ _ _ _ _ rfl rfl ((k1 _).cell 0 _ rfl) ((k2 _).cell 0 _ rfl), rfl, ?_⟩
    exact hb7.trans (belowK_b (w := w) (Nat.le_refl _) w7 D _ _ (by omega) hK7 rfl rfl)
/-- The results' variables, laid at the start, behind begin. -/
theorem resultsAt (w wA : World) (hb : Below ((w.alloc (.cells #[.string (⟨#[]⟩ : ByteArray)] 9 (0, 0))).alloc (.cells #[.int .i64 0] 23 (0, 0))).heap.size ((w.alloc (.cells #[.string (⟨#[]⟩ : ByteArray)] 9 (0, 0))).alloc (.cells #[.int .i64 0] 23 (0, 0))) wA) :
    At wA w.heap.size 9 [.string (⟨#[]⟩ : ByteArray)] ∧ At wA (w.heap.size + 1) 23 [.int .i64 0] ∧ Below w.heap.size w wA ∧ w.heap.size + 1 < wA.heap.size :=
  ⟨((At.new w [.string (⟨#[]⟩ : ByteArray)] 9).alloc (.cells #[.int .i64 0] 23 (0, 0))).below hb (by simp; omega),
   (At.newAt (w := w.alloc (.cells #[.string (⟨#[]⟩ : ByteArray)] 9 (0, 0))) (cs := [.int .i64 0]) (t := 23) (g := w.heap.size + 1) (by simp)).below hb (by simp),
   (((Below.refl _ w).alloc (Nat.le_refl _) _).alloc (by simp) _).trans (hb.mono (by simp; omega)), by have := hb.size; simp at this; omega⟩
/-- A key or a first block of another size. -/
theorem seal_arg (key first data : ByteArray) (w : World) (h : ¬ (key.size = 32 ∧ first.size = 16)) :
    Calls Try.prog 22 #[.string key, .string first, .string data] w fun e w' => e = .returned (.tuple #[.string (⟨#[]⟩ : ByteArray), .int .i64 1]) ∧ Below w.heap.size w w' := by
  have H := Aside0.mk h
  clear h
  go_enter Try.func22, Try.ntmps22
  go_wp2_with (go_at_call 41; refine (begin_arg key first H.out _).mono ?_; rintro e wA ⟨rfl, rfl⟩)
  refine bodyPost_ret (res_se rfl _ _ _ _ _ _ rfl rfl ?_ ?_) rfl ⟨rfl, ?_⟩
  · exact ((((At.new w _ _).alloc _).alloc _).alloc _).cell 0 _ rfl
  · exact (((At.newAt (by simp)).alloc _).alloc _).cell 0 _ rfl
  · exact ((((Below.refl _ w).alloc (Nat.le_refl _) _).alloc (by simp) _).alloc (by simp; omega) _).alloc (by simp; omega) _
theorem seal_long (key first data : ByteArray) (w : World) (hk : key.size = 32) (hf : first.size = 16) (hd : 1048576 < data.size) :
    Calls Try.prog 22 #[.string key, .string first, .string data] w fun e w' => e = .returned (.tuple #[.string (⟨#[]⟩ : ByteArray), .int .i64 40]) ∧ Below w.heap.size w w' := by
  have HK := Aside0.mk hk
  have HF := Aside0.mk hf
  have hd2 : 1048576 < (data.size : Int) := by omega
  have hd3 : decide ((data.size : Int) > 1048576) = true := decide_eq_true (by omega)
  clear hk hf hd
  go_enter Try.func22, Try.ntmps22
  go_wp2_with (go_at_call 41; refine (begin_ok key first HK.out HF.out _).mono ?_; rintro e wA ⟨rfl, hc, hb⟩; have n1 := resultsAt w wA hb; have HC := Aside0.mk n1; have c1 := n1.1.cell 0 _ rfl; have c2 := n1.2.1.cell 0 _ rfl; have f1 := n1.1.frozen 0; have f2 := n1.2.1.frozen 0; have l2 := n1.2.2.2; have l1 : w.heap.size < wA.heap.size := (by omega); clear n1 hc hb)
  refine bodyPost_ret (res_se rfl _ _ _ _ _ _ rfl rfl ?_ ?_) rfl ⟨rfl, ?_⟩
  · exact (((((HC.out.1.set 0 _).other _ _ (by dsimp; omega)).alloc _).alloc _).cell 0 _ rfl)
  · exact (((((HC.out.2.1.other _ _ (by dsimp; omega)).set 0 _).alloc _).alloc _).cell 0 _ rfl)
  · exact (((HC.out.2.2.1.setCell (by dsimp; omega) _).setCell (by dsimp; omega) _).alloc (by simp; omega) _).alloc (by simp; omega) _
/-- What cbc.Seal tells. -/
def cbc_Seal.f (a0 a1 a2 : ByteArray) : Option (ByteArray × Int) :=
  if a0.size = 32 ∧ a1.size = 16 then (if a2.size ≤ 1048576 then some (bs (sealB a0 a1 (blocksOf (frameW a2))).1, 0) else some (⟨#[]⟩, 40)) else some (⟨#[]⟩, 1)
theorem cbc_Seal.calls (a0 a1 a2 : ByteArray) (r1 : ByteArray) (r2 : Int) (w : World) (h : cbc_Seal.f a0 a1 a2 = some (r1, r2)) :
    Calls Try.prog 22 #[.string a0, .string a1, .string a2] w fun e w' => e = .returned (.tuple #[.string r1, .int .i64 r2]) ∧ Below w.heap.size w w' := by
  unfold cbc_Seal.f at h
  split at h
  · rename_i hk
    split at h
    · rename_i hd
      simp only [Option.some.injEq, Prod.mk.injEq] at h
      obtain ⟨rfl, rfl⟩ := h
      exact seal_ok a0 a1 a2 w hk.1 hk.2 hd
    · rename_i hd
      simp only [Option.some.injEq, Prod.mk.injEq] at h
      obtain ⟨rfl, rfl⟩ := h
      exact seal_long a0 a1 a2 w hk.1 hk.2 (by omega)
  · rename_i hk
    simp only [Option.some.injEq, Prod.mk.injEq] at h
    obtain ⟨rfl, rfl⟩ := h
    exact seal_arg a0 a1 a2 w hk
/-- What cbc.Frame tells. -/
def cbc_Frame.f (a0 : ByteArray) : Option ByteArray := if a0.size ≤ 140737488351232 then some (frameW a0) else none
theorem cbc_Frame.calls (a0 : ByteArray) (r : ByteArray) (w : World) (h : cbc_Frame.f a0 = some r) :
    Calls Try.prog 26 #[.string a0] w fun e w' => e = .returned (.string r) ∧ Below w.heap.size w w' := by
  unfold cbc_Frame.f at h
  split at h
  · rename_i hd
    obtain rfl := Option.some.inj h
    exact Frame_any a0 w hd
  · cases h
end Go.Proofs.Ytfbcgpgpfpnpnaa.Given
