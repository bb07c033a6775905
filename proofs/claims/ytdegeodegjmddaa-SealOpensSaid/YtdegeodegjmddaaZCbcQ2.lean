/- The contract of cbc.Seal. Conditions: fewer than 2^47 bytes. The contract of cbc.unframe. Conditions: at least 8 bytes, fewer than 2^47. The contract of cbc.Open. Conditions: at most 2^46 bytes; unframe by its printed contract. The plain law of chains: opening undoes sealing, and the other way round. Conditions: keys of 32 bytes, blocks of 16. The contract of hamperlaw10.awake: the examples. Conditions: none. -/
import Derived.Test.YtdegeodegjmddaaZCbcQ1
import Derived.Shelf.RegionOpen
set_option linter.unusedVariables false
set_option linter.unusedSimpArgs false
namespace Go.Proofs.Ytdegeodegjmddaa.Given
open Go.RowKit Go.Proofs.YtdegeodegjmddaaW.PrintWords Go.Proofs.YtdegeodegjmddaaW.PrintLast Go.Proofs.YtdegeodegjmddaaW.PrintMore
open Go.Proofs.Ytdegeodegjmddaa.Row Go.Proofs.Ytdegeodegjmddaa.Aes Go.Proofs.Ytdegeodegjmddaa.Row.At Go.Proofs.Ytdegeodegjmddaa.Cbc Go.Proofs.Ytdegeodegjmddaa.Range
set_option maxRecDepth 100000
set_option linter.unusedVariables false
set_option linter.unusedSimpArgs false
attribute [local go_sem] Oper.semAt_some
theorem blocks_seq (s : ByteArray) (w W : World) (n Bl B : Nat) (hs : s.size ≤ 140737488355328) (hv : At W Bl 9 [.string s]) :
    SeqBy Fence.wide n Try.prog 47 #[.pointer (some ⟨Bl, 0, none⟩)] (fun x : ByteArray => #[.string x]) (fun A B => B = A) (KpB B Bl)
      (fun xs => xs = blocksOf s) (fun pre x => ∃ suf, blocksOf s = pre ++ x :: suf) W := by
  intro L J W1 hcalm hJ hY h0
  exact (blocks_in n L Bl B s J hY W1 hs (at_calm hv hcalm) h0).mono fun e W' ⟨he, hj⟩ => ⟨he, _, rfl, hj⟩

/-- Between two rounds of Seal's loop: the results' variables (n0, n0 + 1), the cipher, its pointer and the error (nc, nc + 1), the builder (nc + 2), the last block (nc + 3), the iterator's variable. -/
structure SealI (w : World) (key : ByteArray) (nc g Bl : Nat) (fr : ByteArray) (st : List UInt8 × ByteArray) (W : World) : Prop where
  r1 : At W w.heap.size 9 [.string (⟨#[]⟩ : ByteArray)]
  r2 : At W (w.heap.size + 1) 25 [.int .i64 0]
  c : At W nc 49 [.pointer (some ⟨g, 0, none⟩)]
  e : At W (nc + 1) 25 [.int .i64 0]
  out : Bld w.heap.size (nc + 2) st.1 W
  last : At W (nc + 3) 9 [.string st.2]
  cip : At W g 80 (b8s (cipher key.data.toList))
  it : At W Bl 9 [.string fr]
  bel : Below w.heap.size w W
  lt : w.heap.size + 1 < nc ∧ nc + 3 < Bl ∧ w.heap.size ≤ g
variable {w W W' : World} {key fr : ByteArray} {nc g Bl : Nat} {st : List UInt8 × ByteArray}
theorem SealI.go (h : SealI w key nc g Bl fr st W) (hb : Below W.heap.size W W') : SealI w key nc g Bl fr st W' :=
  ⟨at_go h.r1 hb, at_go h.r2 hb, at_go h.c hb, at_go h.e hb, bld_below h.out hb, at_go h.last hb, at_go h.cip hb, at_go h.it hb, h.bel.trans (hb.mono h.bel.size), h.lt⟩
theorem SealI.calm (h : SealI w key nc g Bl fr st W) {B : Nat} (hc : Range.Calm B W W') (hB : w.heap.size ≤ B) : SealI w key nc g Bl fr st W' :=
  ⟨at_calm h.r1 hc, at_calm h.r2 hc, at_calm h.c hc, at_calm h.e hc, bld_calm h.out hc, at_calm h.last hc, at_calm h.cip hc, at_calm h.it hc, h.bel.trans (hc.below hB h.bel.size), h.lt⟩
/-- The last block is another one; the error is none. -/
theorem SealI.wrote (h : SealI w key nc g Bl fr st W) (hg : g ≠ nc + 3 ∧ g ≠ nc + 1) (x : ByteArray) : SealI w key nc g Bl fr (st.1, x) ((W.setCell ⟨nc + 3, 0, none⟩ (.string x)).setCell ⟨nc + 1, 0, none⟩ (.int .i64 0)) := by
  have hl := h.lt
  refine ⟨(h.r1.other _ _ (by dsimp; omega)).other _ _ (by dsimp; omega), (h.r2.other _ _ (by dsimp; omega)).other _ _ (by dsimp; omega), (h.c.other _ _ (by dsimp; omega)).other _ _ (by dsimp; omega), ?_, ?_, ?_,
    (h.cip.other _ _ (by dsimp; omega)).other _ _ (by dsimp; omega), (h.it.other _ _ (by dsimp; omega)).other _ _ (by dsimp; omega), ?_, hl⟩
  · exact (h.e.other _ _ (by dsimp; omega)).set 0 _
  · exact bld_cell (bld_cell h.out h.last (by omega) (by decide) _ _) (h.e.other _ _ (by dsimp; omega)) (by omega) (by decide) _ _
  · exact (h.last.set 0 _).other _ _ (by dsimp; omega)
  · exact (h.bel.setCell (by dsimp; omega) _).setCell (by dsimp; omega) _
theorem SealI.wrote' (h : SealI w key nc g Bl fr st W) (hg : g ≠ nc + 3 ∧ g ≠ nc + 1) (x : ByteArray) : SealI w key nc g Bl fr (st.1, x) ((W.setCell ⟨nc + 1, 0, none⟩ (.int .i64 0)).setCell ⟨nc + 3, 0, none⟩ (.string x)) := by
  have hl := h.lt
  refine ⟨(h.r1.other _ _ (by dsimp; omega)).other _ _ (by dsimp; omega), (h.r2.other _ _ (by dsimp; omega)).other _ _ (by dsimp; omega), (h.c.other _ _ (by dsimp; omega)).other _ _ (by dsimp; omega), ?_, ?_, ?_,
    (h.cip.other _ _ (by dsimp; omega)).other _ _ (by dsimp; omega), (h.it.other _ _ (by dsimp; omega)).other _ _ (by dsimp; omega), ?_, hl⟩
  · exact (h.e.set 0 _).other _ _ (by dsimp; omega)
  · exact bld_cell (bld_cell h.out h.e (by omega) (by decide) _ _) (h.last.other _ _ (by dsimp; omega)) (by omega) (by decide) _ _
  · exact (h.last.other _ _ (by dsimp; omega)).set 0 _
  · exact (h.bel.setCell (by dsimp; omega) _).setCell (by dsimp; omega) _
/-- Bytes written into the builder. -/
theorem SealI.put (h : SealI w key nc g Bl fr st W) {l : List UInt8} (hb : Bld w.heap.size (nc + 2) l W') (hbl : Below w.heap.size W W') (ho : Lib.OthersKept 5 (some (nc + 2)) W W') (hg : g ≠ nc + 2) : SealI w key nc g Bl fr (l, st.2) W' := by
  have hl := h.lt
  exact ⟨at_others h.r1 ho (by omega) (by decide), at_others h.r2 ho (by omega) (by decide), at_others h.c ho (by omega) (by decide), at_others h.e ho (by omega) (by decide), hb, at_others h.last ho (by omega) (by decide), at_others h.cip ho hg (by decide), at_others h.it ho (by omega) (by decide), h.bel.trans hbl, hl⟩
def Stp (D b : Nat) (W W' : World) : Prop := Others D W W' ∧ Below b W W'
theorem Stp.refl (D b : Nat) (W : World) : Stp D b W W := ⟨⟨Nat.le_refl _, fun k o _ e _ => e⟩, Below.refl _ _⟩
theorem Stp.go {D b : Nat} {A B C : World} (h : Stp D b A B) (hb : Below B.heap.size B C) (hB : b ≤ B.heap.size) : Stp D b A C := ⟨others_trans h.1 (others_below hb), h.2.trans (hb.mono hB)⟩
theorem Stp.draw {D b : Nat} {A B : World} (h : Stp D b A B) (hB : b ≤ B.heap.size) : Stp D b A B.drew := h.go (Below.refl _ B).drew hB
theorem Stp.cell {D b : Nat} {A B : World} (h : Stp D b A B) {g : Nat} {t : TypeId} {cs : List Value} (ha : At B g t cs) (hg : b ≤ g) (v : Value) : Stp D b A (B.setCell ⟨g, 0, none⟩ v) :=
  ⟨others_cell h.1 ⟨_, _, _, ha.heap⟩, h.2.setCell hg _⟩
theorem Stp.put {D b k : Nat} {A B C : World} (h : Stp D b A B) (hb : Below b B C) (ho : Lib.OthersKept 5 (some k) B C) (hk : ∃ cs t fr, B.heap[k]? = some (.cells cs t fr)) : Stp D b A C :=
  ⟨others_trans h.1 (others_of ho hb.size hk), h.2.trans hb⟩
theorem seal_step {D : Nat} {W5 W6 : World} {l : List UInt8} (h : SealI w key nc g Bl fr st W5) (hs : Stp D w.heap.size W W5) (hit : W.heap[Bl]? = some (.cells #[.string fr] 9 (0, 0))) (hg : g + 1 ≤ nc)
    (h2 : Bld w.heap.size (nc + 2) l W6) (hb : Below w.heap.size W5 W6) (ho : Lib.OthersKept 5 (some (nc + 2)) W5 W6) :
    Others D W W6 ∧ KpB w.heap.size Bl W W6 ∧ SealI w key nc g Bl fr (l, st.2) W6 := by
  have hI := h.put h2 hb ho (by omega)
  have hS := hs.put hb ho (bld_block h.out)
  exact ⟨hS.1, ⟨hS.2, hI.it.heap.trans hit.symm⟩, hI⟩
theorem seal_wrote {D : Nat} {W4 : World} (h : SealI w key nc g Bl fr st W4) (hs : Stp D w.heap.size W W4) (hg : g + 1 ≤ nc) (y : ByteArray) :
    SealI w key nc g Bl fr (st.1, y) ((W4.setCell ⟨nc + 1 + 1 + 1, 0, none⟩ (.string y)).setCell ⟨nc + 1, 0, none⟩ (.int .i64 0)) ∧ Stp D w.heap.size W ((W4.setCell ⟨nc + 1 + 1 + 1, 0, none⟩ (.string y)).setCell ⟨nc + 1, 0, none⟩ (.int .i64 0)) := by
  have hl := h.lt
  exact ⟨h.wrote (by omega) y, (hs.cell h.last (by omega) (.string y)).cell (h.e.other _ _ (by dsimp; omega)) (by omega) (.int .i64 0)⟩
theorem seal_wrote' {D : Nat} {W4 : World} (h : SealI w key nc g Bl fr st W4) (hs : Stp D w.heap.size W W4) (hg : g + 1 ≤ nc) (y : ByteArray) :
    SealI w key nc g Bl fr (st.1, y) ((W4.setCell ⟨nc + 1, 0, none⟩ (.int .i64 0)).setCell ⟨nc + 1 + 1 + 1, 0, none⟩ (.string y)) ∧ Stp D w.heap.size W ((W4.setCell ⟨nc + 1, 0, none⟩ (.int .i64 0)).setCell ⟨nc + 1 + 1 + 1, 0, none⟩ (.string y)) := by
  have hl := h.lt
  exact ⟨h.wrote' (by omega) y, (hs.cell h.e (by omega) (.int .i64 0)).cell (h.last.other _ _ (by dsimp; omega)) (by omega) (.string y)⟩
theorem SealI.draw (h : SealI w key nc g Bl fr st W) : SealI w key nc g Bl fr st W.drew := h.go (Below.refl _ W).drew

theorem sealI_start (w wA wF : World) (key first fr : ByteArray)
    (h1 : At wA ((w.alloc (.cells #[.string (⟨#[]⟩ : ByteArray)] 9 (0, 0))).alloc (.cells #[.int .i64 0] 25 (0, 0))).heap.size 80 (b8s (cipher key.data.toList)))
    (h2 : Below ((w.alloc (.cells #[.string (⟨#[]⟩ : ByteArray)] 9 (0, 0))).alloc (.cells #[.int .i64 0] 25 (0, 0))).heap.size ((w.alloc (.cells #[.string (⟨#[]⟩ : ByteArray)] 9 (0, 0))).alloc (.cells #[.int .i64 0] 25 (0, 0))) wA)
    (h3 : Below ((((wA.alloc (.cells #[.pointer (some ⟨w.heap.size + 1 + 1, 0, none⟩)] 49 (0, 0))).alloc (.cells #[.int .i64 0] 25 (0, 0))).alloc (.cells #[.pointer none, .slice none 0 0] 54 (0, 0))).alloc (.cells #[.string first] 9 (0, 0))).heap.size
      ((((wA.alloc (.cells #[.pointer (some ⟨w.heap.size + 1 + 1, 0, none⟩)] 49 (0, 0))).alloc (.cells #[.int .i64 0] 25 (0, 0))).alloc (.cells #[.pointer none, .slice none 0 0] 54 (0, 0))).alloc (.cells #[.string first] 9 (0, 0))) wF) :
    SealI w key wA.heap.size (w.heap.size + 1 + 1) wF.heap.size fr ([], first) (wF.alloc (.cells #[.string fr] 9 (0, 0))) := by
  have hsA : w.heap.size + 1 + 1 < wA.heap.size := by have := h1.lt; simpa using this
  have hsF : wA.heap.size + 3 < wF.heap.size := by have := h3.size; simp at this; omega
  have hb0 : Below w.heap.size w wA := (((Below.refl _ w).alloc (Nat.le_refl _) _).alloc (by simp) _).trans (h2.mono (by simp; omega))
  have q1 := ((At.new w [.string (⟨#[]⟩ : ByteArray)] 9).alloc (.cells #[.int .i64 0] 25 (0, 0))).below h2 (by simp; omega)
  have q2 := (At.newAt (w := w.alloc (.cells #[.string (⟨#[]⟩ : ByteArray)] 9 (0, 0))) (cs := [.int .i64 0]) (t := 25) (g := w.heap.size + 1) (by simp)).below h2 (by simp)
  have q3 : At wA (w.heap.size + 1 + 1) 80 (b8s (cipher key.data.toList)) := by simpa using h1
  refine ⟨(at_go ((((q1.alloc _).alloc _).alloc _).alloc _) h3).alloc _, (at_go ((((q2.alloc _).alloc _).alloc _).alloc _) h3).alloc _, ?_, ?_, ?_, ?_, (at_go ((((q3.alloc _).alloc _).alloc _).alloc _) h3).alloc _, At.newAt rfl, ?_, by omega⟩
  · exact (at_go ((((At.new wA _ _).alloc _).alloc _).alloc _) h3).alloc _
  · exact (at_go (((At.newAt (by simp)).alloc _).alloc _) h3).alloc _
  · have := freshBld ((wA.alloc (.cells #[.pointer (some ⟨w.heap.size + 1 + 1, 0, none⟩)] 49 (0, 0))).alloc (.cells #[.int .i64 0] 25 (0, 0)))
    have h4 := bld_mono (B' := w.heap.size) this (by simp; omega)
    have e : ((wA.alloc (.cells #[.pointer (some ⟨w.heap.size + 1 + 1, 0, none⟩)] 49 (0, 0))).alloc (.cells #[.int .i64 0] 25 (0, 0))).heap.size = wA.heap.size + 2 := by simp
    rw [e] at h4
    exact bld_alloc (bld_below (bld_alloc h4 _) h3) _
  · exact (at_go (At.newAt (by simp)) h3).alloc _
  · exact (((((hb0.alloc (by omega) _).alloc (by simp; omega) _).alloc (by simp; omega) _).alloc (by simp; omega) _).trans (h3.mono (by simp; omega))).alloc (by omega) _
set_option maxHeartbeats 2000000 in
theorem seal_ok (key first data : ByteArray) (w : World) (hk : key.size = 32) (hf : first.size = 16) (hd : data.size ≤ 1048576) :
    Calls Try.prog 18 #[.string key, .string first, .string data] w fun e w' => e = .returned (.tuple #[.string (bs (sealB key first (blocksOf (frameW data))).1), .int .i64 0]) ∧ Below w.heap.size w w' := by
  refine callsIn_wide (n := 6) |>.1 ?_
  refine callsIn_of_wp_marks Try.func18 rfl trivial ?_ rfl
  simp only [Try.ntmps18, List.size_toArray, List.length_cons, List.length_nil, Nat.reduceAdd, Nat.reduceSub, Array.replicate_succ, Array.replicate_zero, List.push_toArray, List.append_toArray, List.nil_append, List.cons_append]
  have HK := Aside0.mk hk
  have HF := Aside0.mk hf
  have HD := Aside0.mk hd
  have hd2 : ¬ (1048576 < (data.size : Int)) := by omega
  have hd3 : decide ((data.size : Int) > 1048576) = false := decide_eq_false (by omega)
  clear hk hf hd
  gi_wp2_with (first
    | (refine ⟨trivial, ?_⟩; gi_at_call 28; refine (callsIn_wide.2 (begin_ok key first HK.out HF.out _)).mono ?_; rintro e wA ⟨rfl, hc, hb⟩; have HC := Aside0.mk (And.intro hc hb); clear hc hb)
    | (refine ⟨trivial, ?_⟩; gi_at_call 30; refine (callsIn_wide.2 (Frame_any data _ (by have := HD.out; omega))).mono ?_; rintro e wF ⟨rfl, hb⟩; have HFr := Aside0.mk hb; clear hb)
    | (refine ⟨trivial, ?_⟩; gi_at_call 29; refine (callsIn_wide.2 (blocks_any _ _)).mono ?_; rintro e wB ⟨rfl, rfl⟩))
  obtain ⟨w2, hw2⟩ : ∃ w2, w2 = wF.alloc (.cells #[.string (frameW data)] 9 (0, 0)) := ⟨_, rfl⟩
  obtain ⟨nc, hnc⟩ : ∃ nc, nc = wA.heap.size := ⟨_, rfl⟩
  obtain ⟨Bl, hBl⟩ : ∃ Bl, Bl = wF.heap.size := ⟨_, rfl⟩
  have hgA : w.heap.size + 1 + 1 < nc := by have := HC.out.1.lt; simp at this; omega
  have hBlnc : nc + 3 < Bl := by have := HFr.out.size; simp at this; omega
  have hI := sealI_start w wA wF key first (frameW data) HC.out.1 HC.out.2 HFr.out
  rw [← hw2, ← hnc, ← hBl] at hI
  have HI := Aside0.mk hI
  rw [← hw2, ← hnc, ← hBl]
  have hsz : w2.heap.size = Bl + 1 := by rw [hw2, hBl]; simp
  have HSZ := Aside0.mk hsz
  have HGA := Aside0.mk hgA
  have HBN := Aside0.mk hBlnc
  have HFS : Aside0 ((frameW data).size ≤ 140737488355328) := ⟨by have := HD.out; rw [frameW, bs_size, frameL_length, toList_length]; unfold pad; omega⟩
  clear hw2 hnc hBl hI HFr HC hsz hgA hBlnc hd2 hd3
  refine wp_rangeBy rfl (by omega) (gf := 47) (lb := #[.pointer (some ⟨Bl, 0, none⟩)]) rfl trivial (enters_of Try.func47 (by kernel_rfl) rfl)
    (blocks_seq (frameW data) w w2 _ Bl w.heap.size HFS.out HI.out.it)
    ?hSt (fun h k => ⟨h.1.trans k.1, k.2.trans h.2⟩) ?hKb (fun _ => rfl) (fun pre W => SealI w key nc (w.heap.size + 1 + 1) Bl (frameW data) (sealB key first pre) W)
    (fun s X Y h hc => h.calm hc (by rw [HSZ.out]; have := HBN.out; have := HGA.out; omega)) (fun s X Y h hs => by rw [hs]; exact h) HI.out
    (fun x => { tmps := #[Value.string key, Value.string first, Value.string data, undef, undef, undef,
          Value.pointer (some { block := w.heap.size, off := 0 }),
          Value.pointer (some { block := w.heap.size + 1, off := 0 }),
          Value.pointer (some { block := nc, off := 0 }),
          Value.pointer (some { block := nc + 1, off := 0 }),
          Value.pointer (some { block := nc + 1 + 1, off := 0 }),
          Value.pointer (some { block := nc + 1 + 1 + 1, off := 0 }), .string x,
          Value.tuple #[Value.pointer (some { block := w.heap.size + 1 + 1, off := 0 }), Value.int IntKind.i64 0],
          Value.string key, Value.string first,
          Value.tuple #[Value.pointer (some { block := w.heap.size + 1 + 1, off := 0 }), Value.int IntKind.i64 0],
          Value.pointer (some { block := w.heap.size + 1 + 1, off := 0 }), Value.int IntKind.i64 0, Value.bool false,
          Value.int IntKind.i64 0, Value.bool false, Value.bool false, Value.string data,
          Value.int IntKind.i64 data.size, Value.bool false, Value.string first, Value.string data,
          Value.string (frameW data),
          Value.func (Fn.func 47) #[] #[Value.pointer (some { block := Bl, off := 0 })], .string x, undef, undef,
          undef, undef, undef, undef, undef, undef, undef, undef, undef, undef, undef, undef], defers := [] }) ?assign ?body ?done
  case hSt => rintro X Y rfl; exact ⟨Nat.le_refl _, fun k o _ e _ => e⟩
  case hKb =>
    intro X Y hX h
    have h1 := HSZ.out
    have h2 := HBN.out
    have h3 := HGA.out
    refine ⟨h.below (by omega) (by omega), ?_⟩
    have hlt : Bl < X.heap.size := by omega
    have e : X.heap[Bl]? = some X.heap[Bl] := Array.getElem?_eq_getElem hlt
    rw [e]
    exact h.same _ _ e (.inr (by omega))
  case assign =>
    intro L x W K hK
    gi_wp2
    exact hK
  case body =>
    rintro L pre x W hI2 ⟨suf, hsuf⟩
    obtain ⟨so, sl⟩ : ∃ st, st = sealB key first pre := ⟨_, rfl⟩
    have hx : x.size = 16 := blocksOf_size (frameW data) x (by rw [hsuf]; simp)
    have hlen := congrArg List.length hsuf
    rw [blocksOf_length, List.length_append, List.length_cons] at hlen
    obtain ⟨st, hst⟩ : ∃ st, st = sealB key first pre := ⟨_, rfl⟩
    have hst1 : st.1.length = 16 * pre.length := by rw [hst]; exact sealB_length key first pre
    have hst2 : st.2.size = 16 := by rw [hst]; exact sealB_last key first HF.out pre
    have hsnoc : sealB key first (pre ++ [x]) = sealGo key st x := by rw [sealB_snoc, hst]
    rw [← hst] at hI2
    have HI2 := Aside0.mk hI2
    have HX := Aside0.mk hx
    have HST := Aside0.mk (And.intro hst1 hst2)
    have HSN := Aside0.mk hsnoc
    have HLEN : Aside0 (16 * pre.length + 16 ≤ 140737488355328) := ⟨by have := HFS.out; omega⟩
    have hmix : Try.prog.follows .mixedOrders = true := by kernel_rfl
    have c1 := hI2.c.cell 0 _ rfl
    have c2 : W.cell? ⟨nc + 1 + 1 + 1, 0, none⟩ = some (.string st.2) := hI2.last.cell 0 _ rfl
    clear hI2 hst hst1 hst2 hsnoc hx hlen hsuf so sl
    gi_wp2
    have HIT := Aside0.mk HI2.out.it.heap
    have HO := Aside0.mk ((Stp.refl w2.heap.size w.heap.size W).draw HI2.out.bel.size)
    have n0 := Aside0.mk HI2.out.draw
    clear HI2
    have HI2 := n0
    clear n0
    gi_region_with_o (first
      | (refine ⟨trivial, ?_⟩; gi_at_call 32; refine (callsIn_round (xor_any x st.2 HX.out HST.out.2 _)).mono ?_; rintro e w3 ⟨rfl, hb⟩; have n1 := Aside0.mk (HI2.out.go hb); have n2 := Aside0.mk (HO.out.go hb HI2.out.bel.size); clear HI2 HO hb c1 c2; have HI2 := n1; have HO := n2; clear n1 n2; have c1 := HI2.out.c.cell 0 _ rfl)
      | (refine ⟨trivial, ?_⟩; gi_at_call 31; refine (callsIn_round (Encrypt_w key _ HK.out (xorW_size _ _ HX.out HST.out.2) _ _ HI2.out.cip)).mono ?_; rintro e w4 ⟨rfl, hb⟩; have n1 := Aside0.mk (HI2.out.go hb); have n2 := Aside0.mk (HO.out.go hb HI2.out.bel.size); clear HI2 HO hb c1; have HI2 := n1; have HO := n2; clear n1 n2; have f1 : w4.frozen? ⟨nc + 1 + 1 + 1, 0, none⟩ = false := HI2.out.last.frozen 0; have f2 := HI2.out.e.frozen 0; have g1 : w4.cell? ⟨nc + 1 + 1 + 1, 0, none⟩ = some (.string st.2) := HI2.out.last.cell 0 _ rfl; have g2 := HI2.out.e.cell 0 _ rfl))
    all_goals
      first
        | (have hA := seal_wrote HI2.out HO.out (by have := HGA.out; omega) (encW key (xorW x st.2)); obtain ⟨w5, hw5⟩ : ∃ w5, w5 = (w4.setCell ⟨nc + 1 + 1 + 1, 0, none⟩ (.string (encW key (xorW x st.2)))).setCell ⟨nc + 1, 0, none⟩ (.int .i64 0) := ⟨_, rfl⟩; rw [← hw5] at hA ⊢; have HW := Aside0.mk hA; clear hA hw5 HI2 HO f1 f2 g1 g2)
        | (have hA := seal_wrote' HI2.out HO.out (by have := HGA.out; omega) (encW key (xorW x st.2)); obtain ⟨w5, hw5⟩ : ∃ w5, w5 = (w4.setCell ⟨nc + 1, 0, none⟩ (.int .i64 0)).setCell ⟨nc + 1 + 1 + 1, 0, none⟩ (.string (encW key (xorW x st.2))) := ⟨_, rfl⟩; rw [← hw5] at hA ⊢; have HW := Aside0.mk hA; clear hA hw5 HI2 HO f1 f2 g1 g2)
      have d1 := HW.out.1.e.cell 0 _ rfl
      have d2 : w5.cell? ⟨nc + 1 + 1 + 1, 0, none⟩ = some (.string (encW key (xorW x st.2))) := HW.out.1.last.cell 0 _ rfl
      gi_wp2_with (refine ⟨trivial, ?_⟩; gi_at_call 33; refine (callsIn_round (writeString w.heap.size (nc + 2) st.1 (encW key (xorW x st.2)) _ HW.out.1.out (by rw [HST.out.1, encW_size]; have := HLEN.out; omega) HW.out.1.bel.size)).mono ?_; rintro e w6 ⟨rfl, h2, hb, ho⟩; have hf := Aside0.mk (seal_step HW.out.1 HW.out.2 HIT.out (by have := HGA.out; omega) h2 hb ho); clear h2 hb ho)
      exact ⟨hf.out.1, hf.out.2.1, by show SealI _ _ _ _ _ _ (sealB key first (pre ++ [x])) _; rw [HSN.out]; exact hf.out.2.2⟩
  case done =>
    rintro D xs W hD rfl hI2 hK
    have HI2 := Aside0.mk hI2
    have HKD := Aside0.mk hK
    have HDD := Aside0.mk hD
    clear hI2 hK hD
    gi_wp2_with (refine ⟨trivial, ?_⟩; gi_at_call 34; refine (callsIn_wide.2 (stringB HI2.out.out HI2.out.bel.size)).mono ?_; rintro e w6 ⟨rfl, h2, hb, ho⟩; have hK6 := ho _ _ HKD.out (by intro e; have := HSZ.out; have := HDD.out; have := HBN.out; cases e; omega) (fun _ _ e => by cases e); have n1 := Aside0.mk (HI2.out.put h2 hb ho (by have := HGA.out; omega)); clear HI2 HKD h2 hb ho; have HI2 := n1; have HKD := Aside0.mk hK6; clear n1 hK6; have c1 := HI2.out.r1.cell 0 _ rfl; have c2 := HI2.out.r2.cell 0 _ rfl; have f1 := HI2.out.r1.frozen 0; have f2 := HI2.out.r2.frozen 0)
    obtain ⟨w7, hw7⟩ : ∃ w7, w7 = (w6.setCell ⟨w.heap.size, 0, none⟩ (.string (bs (sealB key first (blocksOf (frameW data))).1))).setCell ⟨w.heap.size + 1, 0, none⟩ (.int .i64 0) := ⟨_, rfl⟩
    rw [← hw7]
    have hb7 : Below w.heap.size w w7 := by rw [hw7]; exact (HI2.out.bel.setCell (by dsimp; omega) _).setCell (by dsimp; omega) _
    have a1 : At w7 w.heap.size 9 [.string (bs (sealB key first (blocksOf (frameW data))).1)] := by rw [hw7]; exact (HI2.out.r1.set 0 _).other _ _ (by dsimp; omega)
    have a2 : At w7 (w.heap.size + 1) 25 [.int .i64 0] := by rw [hw7]; exact (HI2.out.r2.other _ _ (by dsimp; omega)).set 0 _
    have hD : w.heap.size + 1 < D := by have := HSZ.out; have := HDD.out; have := HBN.out; have := HGA.out; omega
    have hK7 : w7.heap[D]? = some (.deferred (some [])) := by
      rw [hw7, Below.heap_setCell _ _ _ _ (by dsimp; omega), Below.heap_setCell _ _ _ _ (by dsimp; omega)]
      exact HKD.out
    refine ⟨by simp, .inl ⟨_, _, rfl, run_takeDeferred hK7, ?_⟩⟩
    have hb8 : Below w7.heap.size w7 (w7.putObj D (.deferred none)) → True := fun _ => trivial
    have k1 : ∀ o, At (w7.putObj D o) w.heap.size 9 [.string (bs (sealB key first (blocksOf (frameW data))).1)] := fun o => ⟨(World.putObj_heap_other (by omega)).trans a1.heap⟩
    have k2 : ∀ o, At (w7.putObj D o) (w.heap.size + 1) 25 [.int .i64 0] := fun o => ⟨(World.putObj_heap_other (by omega)).trans a2.heap⟩
    refine ⟨_, res_se rfl _ _ _ _ _ _ rfl rfl ((k1 _).cell 0 _ rfl) ((k2 _).cell 0 _ rfl), rfl, ?_⟩
    exact hb7.trans (belowK_b (w := w) (Nat.le_refl _) w7 D _ _ (by omega) hK7 rfl rfl)
/-- The results' variables, laid at the start, behind begin. -/
theorem resultsAt (w wA : World) (hb : Below ((w.alloc (.cells #[.string (⟨#[]⟩ : ByteArray)] 9 (0, 0))).alloc (.cells #[.int .i64 0] 25 (0, 0))).heap.size ((w.alloc (.cells #[.string (⟨#[]⟩ : ByteArray)] 9 (0, 0))).alloc (.cells #[.int .i64 0] 25 (0, 0))) wA) :
    At wA w.heap.size 9 [.string (⟨#[]⟩ : ByteArray)] ∧ At wA (w.heap.size + 1) 25 [.int .i64 0] ∧ Below w.heap.size w wA ∧ w.heap.size + 1 < wA.heap.size :=
  ⟨((At.new w [.string (⟨#[]⟩ : ByteArray)] 9).alloc (.cells #[.int .i64 0] 25 (0, 0))).below hb (by simp; omega),
   (At.newAt (w := w.alloc (.cells #[.string (⟨#[]⟩ : ByteArray)] 9 (0, 0))) (cs := [.int .i64 0]) (t := 25) (g := w.heap.size + 1) (by simp)).below hb (by simp),
   (((Below.refl _ w).alloc (Nat.le_refl _) _).alloc (by simp) _).trans (hb.mono (by simp; omega)), by have := hb.size; simp at this; omega⟩
/-- A key or a first block of another size. -/
theorem seal_arg (key first data : ByteArray) (w : World) (h : ¬ (key.size = 32 ∧ first.size = 16)) :
    Calls Try.prog 18 #[.string key, .string first, .string data] w fun e w' => e = .returned (.tuple #[.string (⟨#[]⟩ : ByteArray), .int .i64 1]) ∧ Below w.heap.size w w' := by
  have H := Aside0.mk h
  clear h
  go_enter Try.func18, Try.ntmps18
  go_wp2_with (go_at_call 28; refine (begin_arg key first H.out _).mono ?_; rintro e wA ⟨rfl, rfl⟩)
  refine bodyPost_ret (res_se rfl _ _ _ _ _ _ rfl rfl ?_ ?_) rfl ⟨rfl, ?_⟩
  · exact ((((At.new w _ _).alloc _).alloc _).alloc _).cell 0 _ rfl
  · exact (((At.newAt (by simp)).alloc _).alloc _).cell 0 _ rfl
  · exact ((((Below.refl _ w).alloc (Nat.le_refl _) _).alloc (by simp) _).alloc (by simp; omega) _).alloc (by simp; omega) _
theorem seal_long (key first data : ByteArray) (w : World) (hk : key.size = 32) (hf : first.size = 16) (hd : 1048576 < data.size) :
    Calls Try.prog 18 #[.string key, .string first, .string data] w fun e w' => e = .returned (.tuple #[.string (⟨#[]⟩ : ByteArray), .int .i64 40]) ∧ Below w.heap.size w w' := by
  have HK := Aside0.mk hk
  have HF := Aside0.mk hf
  have hd2 : 1048576 < (data.size : Int) := by omega
  have hd3 : decide ((data.size : Int) > 1048576) = true := decide_eq_true (by omega)
  clear hk hf hd
  go_enter Try.func18, Try.ntmps18
  go_wp2_with (go_at_call 28; refine (begin_ok key first HK.out HF.out _).mono ?_; rintro e wA ⟨rfl, hc, hb⟩; have n1 := resultsAt w wA hb; have HC := Aside0.mk n1; have c1 := n1.1.cell 0 _ rfl; have c2 := n1.2.1.cell 0 _ rfl; have f1 := n1.1.frozen 0; have f2 := n1.2.1.frozen 0; have l2 := n1.2.2.2; have l1 : w.heap.size < wA.heap.size := (by omega); clear n1 hc hb)
  refine bodyPost_ret (res_se rfl _ _ _ _ _ _ rfl rfl ?_ ?_) rfl ⟨rfl, ?_⟩
  · exact (((((HC.out.1.set 0 _).other _ _ (by dsimp; omega)).alloc _).alloc _).cell 0 _ rfl)
  · exact (((((HC.out.2.1.other _ _ (by dsimp; omega)).set 0 _).alloc _).alloc _).cell 0 _ rfl)
  · exact (((HC.out.2.2.1.setCell (by dsimp; omega) _).setCell (by dsimp; omega) _).alloc (by simp; omega) _).alloc (by simp; omega) _
/-- What cbc.Seal tells. -/
def cbc_Seal.f (a0 a1 a2 : ByteArray) : Option (ByteArray × Int) :=
  if a0.size = 32 ∧ a1.size = 16 then (if a2.size ≤ 1048576 then some (bs (sealB a0 a1 (blocksOf (frameW a2))).1, 0) else some (⟨#[]⟩, 40)) else some (⟨#[]⟩, 1)
theorem cbc_Seal.calls (a0 a1 a2 : ByteArray) (r1 : ByteArray) (r2 : Int) (w : World) (h : cbc_Seal.f a0 a1 a2 = some (r1, r2)) :
    Calls Try.prog 18 #[.string a0, .string a1, .string a2] w fun e w' => e = .returned (.tuple #[.string r1, .int .i64 r2]) ∧ Below w.heap.size w w' := by
  unfold cbc_Seal.f at h
  split at h
  · rename_i hk
    split at h
    · rename_i hd
      simp only [Option.some.injEq, Prod.mk.injEq] at h
      obtain ⟨rfl, rfl⟩ := h
      exact seal_ok a0 a1 a2 w hk.1 hk.2 hd
    · rename_i hd
      simp only [Option.some.injEq, Prod.mk.injEq] at h
      obtain ⟨rfl, rfl⟩ := h
      exact seal_long a0 a1 a2 w hk.1 hk.2 (by omega)
  · rename_i hk
    simp only [Option.some.injEq, Prod.mk.injEq] at h
    obtain ⟨rfl, rfl⟩ := h
    exact seal_arg a0 a1 a2 w hk
/-- What cbc.Frame tells. -/
def cbc_Frame.f (a0 : ByteArray) : Option ByteArray := if a0.size ≤ 140737488351232 then some (frameW a0) else none
theorem cbc_Frame.calls (a0 : ByteArray) (r : ByteArray) (w : World) (h : cbc_Frame.f a0 = some r) :
    Calls Try.prog 30 #[.string a0] w fun e w' => e = .returned (.string r) ∧ Below w.heap.size w w' := by
  unfold cbc_Frame.f at h
  split at h
  · rename_i hd
    obtain rfl := Option.some.inj h
    exact Frame_any a0 w hd
  · cases h
end Go.Proofs.Ytdegeodegjmddaa.Given

namespace Go.Proofs.Ytdegeodegjmddaa.Given
open Go.RowKit Go.Proofs.YtdegeodegjmddaaW.PrintWords Go.Proofs.YtdegeodegjmddaaW.PrintLast Go.Proofs.YtdegeodegjmddaaW.PrintMore
open Go.Proofs.Ytdegeodegjmddaa.Row Go.Proofs.Ytdegeodegjmddaa.Aes Go.Proofs.Ytdegeodegjmddaa.Row.At Go.Proofs.Ytdegeodegjmddaa.Cbc
set_option maxRecDepth 100000
set_option linter.unusedVariables false
set_option linter.unusedSimpArgs false
/-- bytes as a number, the highest first -/
def numL (l : List UInt8) : Nat := l.foldl (fun n b => n * 256 + b.toNat) 0
theorem numL_snoc (l : List UInt8) (b : UInt8) : numL (l ++ [b]) = numL l * 256 + b.toNat := by simp [numL]
theorem numF_lt (l : List UInt8) : ∀ n, l.foldl (fun n b => n * 256 + b.toNat) n < (n + 1) * 256 ^ l.length := by
  induction l with
  | nil => intro n; simp
  | cons b l ih =>
    intro n
    rw [List.foldl_cons, List.length_cons, Nat.pow_succ']
    have h1 := ih (n * 256 + b.toNat)
    have h2 := b.toNat_lt
    have h3 : (n * 256 + b.toNat + 1) * 256 ^ l.length ≤ ((n + 1) * 256) * 256 ^ l.length := Nat.mul_le_mul_right _ (by omega)
    rw [← Nat.mul_assoc]
    omega
theorem numL_lt (l : List UInt8) : numL l < 256 ^ l.length := by
  have := numF_lt l 0
  simpa [numL] using this
theorem shift_in (n b : Nat) (hn : n < 256 ^ 7) (hb : b < 256) : bits .or .u64 (IntKind.u64.wrap ((n : Int) * 256)) (IntKind.u64.wrap (b : Int)) = ((n * 256 + b : Nat) : Int) := by
  have e1 : IntKind.u64.wrap ((n : Int) * 256) = (n : Int) * 256 := by rw [IntKind.wrap_u64]; omega
  have e2 : IntKind.u64.wrap (b : Int) = (b : Int) := by rw [IntKind.wrap_u64]; omega
  rw [e1, e2, bits_join .u64 64 (by decide) (fun n h0 h1 => by rw [IntKind.wrap_u64]; omega) 8 ((n : Int) * 256) b (by omega) (by omega) (by omega) (by omega) (by omega) (by omega)]
  omega
/-- What unframe tells. -/
def unframeR (s : ByteArray) : ByteArray × Bool :=
  if s.size - 8 < numL (s.data.toList.take 8) ∨ 1048576 < numL (s.data.toList.take 8) then (⟨#[]⟩, false)
  else (s.extract 8 (8 + numL (s.data.toList.take 8)), (frameW (s.extract 8 (8 + numL (s.data.toList.take 8)))).toList == s.toList)
set_option maxHeartbeats 1000000 in
theorem unframe_any (s : ByteArray) (w : World) (h8 : 8 ≤ s.size) (hs : s.size ≤ 140737488351232) :
    Calls Try.prog 38 #[.string s] w fun e w' => e = .returned (.tuple #[.string (unframeR s).1, .bool (unframeR s).2]) ∧ Below w.heap.size w w' := by
  have H8 := Aside0.mk h8
  have HS := Aside0.mk hs
  clear h8 hs
  go_enter Try.func38, Try.ntmps38
  go_wp2
  go_loopg [4, 7] 8 (fun gg s4 s7 wx => ∃ i : Nat, i + gg = 8 ∧ s4 = .int .u64 (numL (s.data.toList.take i)) ∧ s7 = .int .i64 i ∧ w = wx)
  case atStart => exact ⟨0, by omega, rfl, rfl, rfl⟩
  case round =>
    obtain ⟨i, hi, rfl, rfl, rfl⟩ := hrel
    cases gk with
    | zero =>
      have hi8 : i = 8 := by omega
      subst hi8
      obtain ⟨n, hn⟩ : ∃ n, n = numL (s.data.toList.take 8) := ⟨_, rfl⟩
      rw [← hn]
      have HN := Aside0.mk hn
      have hlt : n < 18446744073709551616 := by
        have := numL_lt (s.data.toList.take 8)
        have h8 := H8.out
        rw [← hn, List.length_take, toList_length] at this
        have e : min 8 s.size = 8 := by omega
        rw [e] at this
        exact this
      clear hn
      have hsub : wrap64 ((s.size : Int) - 8) = (s.size : Int) - 8 := by have := H8.out; have := HS.out; exact wrap64_of_bounds (by omega) (by omega)
      have hu : IntKind.u64.wrap ((s.size : Int) - 8) = (s.size : Int) - 8 := by have := H8.out; have := HS.out; rw [IntKind.wrap_u64]; omega
      by_cases hb : s.size - 8 < n
      · have hc : (s.size : Int) - 8 < (n : Int) := by have := H8.out; omega
        have hr : unframeR s = (⟨#[]⟩, false) := by unfold unframeR; rw [← HN.out, if_pos (.inl hb)]
        have HR := Aside0.mk hr
        clear hb hr hlt
        go_wp2
        go_ret2
        refine ⟨?_, Below.refl _ _⟩
        rw [HR.out]
        rfl
      · by_cases hb2 : 1048576 < n
        · have hc : ¬ ((s.size : Int) - 8 < (n : Int)) := by have := H8.out; omega
          have hc2 : (1048576 : Int) < (n : Int) := by omega
          have hr : unframeR s = (⟨#[]⟩, false) := by unfold unframeR; rw [← HN.out, if_pos (.inr hb2)]
          have HR := Aside0.mk hr
          clear hb hb2 hr hlt
          go_wp2
          go_ret2
          refine ⟨?_, Below.refl _ _⟩
          rw [HR.out]
          rfl
        · have hc : ¬ ((s.size : Int) - 8 < (n : Int)) := by have := H8.out; omega
          have hc2 : ¬ ((1048576 : Int) < (n : Int)) := by omega
          have hr : unframeR s = (s.extract 8 (8 + n), (frameW (s.extract 8 (8 + n))).toList == s.toList) := by unfold unframeR; rw [← HN.out, if_neg (by omega)]
          have HR := Aside0.mk hr
          have hw : wrap64 (n : Int) = (n : Int) := wrap64_of_bounds (by omega) (by omega)
          have hw2 : wrap64 (8 + (n : Int)) = 8 + (n : Int) := wrap64_of_bounds (by omega) (by omega)
          have hle : (8 : Int) + n ≤ s.size := by omega
          have HX : Aside0 ((s.extract 8 (8 + n)).size ≤ 140737488351232) := ⟨by rw [ByteArray.size_extract]; have := HS.out; omega⟩
          clear hb hb2 hr hlt
          go_wp2_with (go_at_call 30; refine (Frame_any _ _ HX.out).mono ?_; rintro e w2 ⟨rfl, hb⟩; have HB := Aside0.mk hb; clear hb)
          go_ret2
          refine ⟨?_, HB.out⟩
          rw [HR.out]
          rfl
    | succ gk =>
      have hi8 : (i : Int) < 8 := by omega
      have hix := index_str s i (by have := H8.out; omega) w
      go_wp2
      go_roundg gk
      case measure => omega
      case rel =>
        refine ⟨i + 1, by omega, ?_, by go_num, rfl⟩
        have hlen : i < s.data.toList.length := by rw [toList_length]; have := H8.out; omega
        have htake : s.data.toList.take (i + 1) = s.data.toList.take i ++ [gb s.data.toList i] := by
          rw [← List.take_append_getElem hlen]; simp only [gb, List.getD_eq_getElem?_getD, List.getElem?_eq_getElem hlen, Option.getD_some]
        have hnl : numL (s.data.toList.take i) < 256 ^ 7 := by
          have := numL_lt (s.data.toList.take i)
          rw [List.length_take] at this
          exact Nat.lt_of_lt_of_le this (Nat.pow_le_pow_right (by decide) (by omega))
        rw [htake, numL_snoc, shift_in _ _ hnl (gb s.data.toList i).toNat_lt]
end Go.Proofs.Ytdegeodegjmddaa.Given

namespace Go.Proofs.Ytdegeodegjmddaa.Given
open Go.RowKit Go.Proofs.YtdegeodegjmddaaW.PrintWords Go.Proofs.YtdegeodegjmddaaW.PrintLast Go.Proofs.YtdegeodegjmddaaW.PrintMore
open Go.Proofs.Ytdegeodegjmddaa.Row Go.Proofs.Ytdegeodegjmddaa.Aes Go.Proofs.Ytdegeodegjmddaa.Row.At Go.Proofs.Ytdegeodegjmddaa.Cbc Go.Proofs.Ytdegeodegjmddaa.Range
set_option maxRecDepth 100000
set_option linter.unusedVariables false
set_option linter.unusedSimpArgs false
attribute [local go_sem] Oper.semAt_some
/-- Between two rounds of Open's loop: the results' variables (n0, n0 + 1), the cipher, its pointer (nc), the builder (nc + 1), the last block (nc + 2), the iterator's variable. -/
structure OpenI (w : World) (key : ByteArray) (nc g Bl : Nat) (fr : ByteArray) (st : List UInt8 × ByteArray) (W : World) : Prop where
  r1 : At W w.heap.size 9 [.string (⟨#[]⟩ : ByteArray)]
  r2 : At W (w.heap.size + 1) 25 [.int .i64 0]
  c : At W nc 49 [.pointer (some ⟨g, 0, none⟩)]
  out : Bld w.heap.size (nc + 1) st.1 W
  last : At W (nc + 2) 9 [.string st.2]
  cip : At W g 80 (b8s (cipher key.data.toList))
  it : At W Bl 9 [.string fr]
  bel : Below w.heap.size w W
  lt : w.heap.size + 1 < nc ∧ nc + 2 < Bl ∧ w.heap.size ≤ g ∧ g < nc
section
variable {w W W' : World} {key fr : ByteArray} {nc g Bl : Nat} {st : List UInt8 × ByteArray}
theorem OpenI.go (h : OpenI w key nc g Bl fr st W) (hb : Below W.heap.size W W') : OpenI w key nc g Bl fr st W' :=
  ⟨at_go h.r1 hb, at_go h.r2 hb, at_go h.c hb, bld_below h.out hb, at_go h.last hb, at_go h.cip hb, at_go h.it hb, h.bel.trans (hb.mono h.bel.size), h.lt⟩
theorem OpenI.calm (h : OpenI w key nc g Bl fr st W) {B : Nat} (hc : Range.Calm B W W') (hB : w.heap.size ≤ B) : OpenI w key nc g Bl fr st W' :=
  ⟨at_calm h.r1 hc, at_calm h.r2 hc, at_calm h.c hc, bld_calm h.out hc, at_calm h.last hc, at_calm h.cip hc, at_calm h.it hc, h.bel.trans (hc.below hB h.bel.size), h.lt⟩
theorem OpenI.put (h : OpenI w key nc g Bl fr st W) {l : List UInt8} (hb : Bld w.heap.size (nc + 1) l W') (hbl : Below w.heap.size W W') (ho : Lib.OthersKept 5 (some (nc + 1)) W W') : OpenI w key nc g Bl fr (l, st.2) W' := by
  have hl := h.lt
  exact ⟨at_others h.r1 ho (by omega) (by decide), at_others h.r2 ho (by omega) (by decide), at_others h.c ho (by omega) (by decide), hb, at_others h.last ho (by omega) (by decide), at_others h.cip ho (by omega) (by decide), at_others h.it ho (by omega) (by decide), h.bel.trans hbl, hl⟩
theorem OpenI.wrote (h : OpenI w key nc g Bl fr st W) (x : ByteArray) : OpenI w key nc g Bl fr (st.1, x) (W.setCell ⟨nc + 1 + 1, 0, none⟩ (.string x)) := by
  have hl := h.lt
  exact ⟨h.r1.other _ _ (by dsimp; omega), h.r2.other _ _ (by dsimp; omega), h.c.other _ _ (by dsimp; omega), bld_cell h.out h.last (by omega) (by decide) _ _, h.last.set 0 _, h.cip.other _ _ (by dsimp; omega), h.it.other _ _ (by dsimp; omega), h.bel.setCell (by dsimp; omega) _, hl⟩
theorem open_step {D : Nat} {x : ByteArray} {l : List UInt8} (h : OpenI w key nc g Bl fr (l, st.2) W') (hs : Stp D w.heap.size W W') (hit : W.heap[Bl]? = some (.cells #[.string fr] 9 (0, 0))) :
    Others D W (W'.setCell ⟨nc + 1 + 1, 0, none⟩ (.string x)) ∧ KpB w.heap.size Bl W (W'.setCell ⟨nc + 1 + 1, 0, none⟩ (.string x)) ∧ OpenI w key nc g Bl fr (l, x) (W'.setCell ⟨nc + 1 + 1, 0, none⟩ (.string x)) := by
  have hl := h.lt
  have hI := h.wrote x
  have hS := hs.cell h.last (by omega) (.string x)
  exact ⟨hS.1, ⟨hS.2, hI.it.heap.trans hit.symm⟩, hI⟩
end
theorem openI_start (w wA : World) (key first fr : ByteArray)
    (h1 : At wA ((w.alloc (.cells #[.string (⟨#[]⟩ : ByteArray)] 9 (0, 0))).alloc (.cells #[.int .i64 0] 25 (0, 0))).heap.size 80 (b8s (cipher key.data.toList)))
    (h2 : Below ((w.alloc (.cells #[.string (⟨#[]⟩ : ByteArray)] 9 (0, 0))).alloc (.cells #[.int .i64 0] 25 (0, 0))).heap.size ((w.alloc (.cells #[.string (⟨#[]⟩ : ByteArray)] 9 (0, 0))).alloc (.cells #[.int .i64 0] 25 (0, 0))) wA) :
    OpenI w key wA.heap.size (w.heap.size + 1 + 1) (wA.heap.size + 1 + 1 + 1) fr ([], first) ((((wA.alloc (.cells #[.pointer (some ⟨w.heap.size + 1 + 1, 0, none⟩)] 49 (0, 0))).alloc (.cells #[.pointer none, .slice none 0 0] 54 (0, 0))).alloc (.cells #[.string first] 9 (0, 0))).alloc (.cells #[.string fr] 9 (0, 0))) := by
  have hsA : w.heap.size + 1 + 1 < wA.heap.size := by have := h1.lt; simpa using this
  obtain ⟨q1, q2, hb0, _⟩ := resultsAt w wA h2
  have q3 : At wA (w.heap.size + 1 + 1) 80 (b8s (cipher key.data.toList)) := by simpa using h1
  refine ⟨(((q1.alloc _).alloc _).alloc _).alloc _, (((q2.alloc _).alloc _).alloc _).alloc _, (((At.new wA _ _).alloc _).alloc _).alloc _, ?_, (At.newAt (by simp)).alloc _, (((q3.alloc _).alloc _).alloc _).alloc _, At.newAt (by simp), ?_, by omega⟩
  · have := freshBld (wA.alloc (.cells #[.pointer (some ⟨w.heap.size + 1 + 1, 0, none⟩)] 49 (0, 0)))
    have h4 := bld_mono (B' := w.heap.size) this (by simp; omega)
    have e : (wA.alloc (.cells #[.pointer (some ⟨w.heap.size + 1 + 1, 0, none⟩)] 49 (0, 0))).heap.size = wA.heap.size + 1 := by simp
    rw [e] at h4
    exact bld_alloc (bld_alloc h4 _) _
  · exact (((hb0.alloc (by omega) _).alloc (by simp; omega) _).alloc (by simp; omega) _).alloc (by simp; omega) _
/-- What Open tells of a text of whole blocks. -/
def openR (key first s : ByteArray) : ByteArray × Int :=
  if (unframeR (bs (openB key first (blocksOf s)).1)).2 = true then ((unframeR (bs (openB key first (blocksOf s)).1)).1, 0) else (⟨#[]⟩, 4)
set_option maxHeartbeats 2000000 in
theorem open_ok (key first s : ByteArray) (w : World) (hk : key.size = 32) (hf : first.size = 16) (hs0 : s.size ≠ 0) (hs : s.size % 16 = 0) (hl : s.size ≤ 140737488351232) :
    Calls Try.prog 22 #[.string key, .string first, .string s] w fun e w' => e = .returned (.tuple #[.string (openR key first s).1, .int .i64 (openR key first s).2]) ∧ Below w.heap.size w w' := by
  refine callsIn_wide (n := 6) |>.1 ?_
  refine callsIn_of_wp_marks Try.func22 rfl trivial ?_ rfl
  simp only [Try.ntmps22, List.size_toArray, List.length_cons, List.length_nil, Nat.reduceAdd, Nat.reduceSub, Array.replicate_succ, Array.replicate_zero, List.push_toArray, List.append_toArray, List.nil_append, List.cons_append]
  have HK := Aside0.mk hk
  have HF := Aside0.mk hf
  have HS := Aside0.mk (And.intro hs0 (And.intro hs hl))
  have hn : s.toList.isEmpty = false := by
    rw [Go.Lib.toList_data, List.isEmpty_eq_false_iff]
    intro e
    exact hs0 (by rw [← toList_length, e]; rfl)
  have hm : (s.size : Int).tmod 16 = 0 := by rw [Int.tmod_eq_emod_of_nonneg (by omega)]; omega
  clear hk hf hs0 hs hl
  gi_wp2_with (first
    | (refine ⟨trivial, ?_⟩; gi_at_call 28; refine (callsIn_wide.2 (begin_ok key first HK.out HF.out _)).mono ?_; rintro e wA ⟨rfl, hc, hb⟩; have HC := Aside0.mk (And.intro hc hb); clear hc hb)
    | (refine ⟨trivial, ?_⟩; gi_at_call 29; refine (callsIn_wide.2 (blocks_any _ _)).mono ?_; rintro e wB ⟨rfl, rfl⟩))
  obtain ⟨nc, hnc⟩ : ∃ nc, nc = wA.heap.size := ⟨_, rfl⟩
  have hI := openI_start w wA key first s HC.out.1 HC.out.2
  obtain ⟨w2, hw2⟩ : ∃ w2, w2 = ((((wA.alloc (.cells #[.pointer (some ⟨w.heap.size + 1 + 1, 0, none⟩)] 49 (0, 0))).alloc (.cells #[.pointer none, .slice none 0 0] 54 (0, 0))).alloc (.cells #[.string first] 9 (0, 0))).alloc (.cells #[.string s] 9 (0, 0))) := ⟨_, rfl⟩
  rw [← hw2, ← hnc] at hI
  rw [← hw2, ← hnc]
  have HI := Aside0.mk hI
  have HSZ : Aside0 (w2.heap.size = nc + 1 + 1 + 1 + 1) := ⟨by rw [hw2, hnc]; simp⟩
  clear hw2 hnc hI HC
  refine wp_rangeBy rfl (by omega) (gf := 47) (lb := #[.pointer (some ⟨nc + 1 + 1 + 1, 0, none⟩)]) rfl trivial (enters_of Try.func47 (by kernel_rfl) rfl)
    (blocks_seq s w w2 _ (nc + 1 + 1 + 1) w.heap.size (by have := HS.out.2.2; omega) HI.out.it)
    ?hSt (fun h k => ⟨h.1.trans k.1, k.2.trans h.2⟩) ?hKb (fun _ => rfl) (fun pre W => OpenI w key nc (w.heap.size + 1 + 1) (nc + 1 + 1 + 1) s (openB key first pre) W)
    (fun s X Y h hc => h.calm hc (by rw [HSZ.out]; have := HI.out.lt; omega)) (fun s X Y h hs => by rw [hs]; exact h) HI.out
    (fun x => { tmps := #[Value.string key, Value.string first, Value.string s, undef, undef, undef,
          Value.pointer (some { block := w.heap.size, off := 0 }),
          Value.pointer (some { block := w.heap.size + 1, off := 0 }),
          Value.pointer (some { block := nc, off := 0 }), Value.int IntKind.i64 0,
          Value.pointer (some { block := nc + 1, off := 0 }),
          Value.pointer (some { block := nc + 1 + 1, off := 0 }), .string x, undef, undef, undef, undef,
          Value.tuple #[Value.pointer (some { block := w.heap.size + 1 + 1, off := 0 }), Value.int IntKind.i64 0],
          Value.string key, Value.string first,
          Value.tuple #[Value.pointer (some { block := w.heap.size + 1 + 1, off := 0 }), Value.int IntKind.i64 0],
          Value.pointer (some { block := w.heap.size + 1 + 1, off := 0 }), Value.int IntKind.i64 0, Value.bool false,
          Value.int IntKind.i64 0, Value.bool false, Value.bool false, Value.string s, Value.bool false,
          Value.bool false, Value.string s, Value.int IntKind.i64 s.size, Value.int IntKind.i64 0, Value.bool false,
          Value.bool false, Value.string first, Value.string s,
          Value.func (Fn.func 47) #[] #[Value.pointer (some { block := nc + 1 + 1 + 1, off := 0 })], .string x,
          undef, undef, undef, undef, undef, undef, undef, undef, undef, undef, undef, undef, undef, undef, undef, undef, undef, undef, undef, undef, undef, undef], defers := [] }) ?assign ?body ?done
  case hSt => rintro X Y rfl; exact ⟨Nat.le_refl _, fun k o _ e _ => e⟩
  case hKb =>
    intro X Y hX h
    have h1 := HSZ.out
    have h3 := HI.out.lt
    refine ⟨h.below (by omega) (by omega), ?_⟩
    have hlt : nc + 1 + 1 + 1 < X.heap.size := by omega
    have e : X.heap[nc + 1 + 1 + 1]? = some X.heap[nc + 1 + 1 + 1] := Array.getElem?_eq_getElem hlt
    rw [e]
    exact h.same _ _ e (.inr (by omega))
  case assign =>
    intro L x W K hK
    gi_wp2
    exact hK
  case body =>
    rintro L pre x W hI2 ⟨suf, hsuf⟩
    have hx : x.size = 16 := blocksOf_size s x (by rw [hsuf]; simp)
    have hpre : ∀ b ∈ pre, b.size = 16 := fun b hb => blocksOf_size s b (by rw [hsuf]; simp [hb])
    have hlen := congrArg List.length hsuf
    rw [blocksOf_length, List.length_append, List.length_cons] at hlen
    obtain ⟨st, hst⟩ : ∃ st, st = openB key first pre := ⟨_, rfl⟩
    have hst1 : st.1.length = 16 * pre.length := by rw [hst]; exact openB_length key first HF.out pre hpre
    have hst2 : st.2.size = 16 := by rw [hst]; exact openB_last key first HF.out pre hpre
    have hsnoc : openB key first (pre ++ [x]) = openGo key st x := by rw [openB_snoc, hst]
    rw [← hst] at hI2
    have HI2 := Aside0.mk hI2
    have HX := Aside0.mk hx
    have HST := Aside0.mk (And.intro hst1 hst2)
    have HSN := Aside0.mk hsnoc
    have HLEN : Aside0 (16 * pre.length + 16 ≤ 140737488355328) := ⟨by have := HS.out; omega⟩
    have c1 := hI2.c.cell 0 _ rfl
    have c2 : W.cell? ⟨nc + 1 + 1, 0, none⟩ = some (.string st.2) := hI2.last.cell 0 _ rfl
    have HIT := Aside0.mk hI2.it.heap
    have HO := Aside0.mk (Stp.refl w2.heap.size w.heap.size W)
    clear hI2 hst hst1 hst2 hsnoc hx hlen hsuf hpre
    gi_wp2_with (first
      | (refine ⟨trivial, ?_⟩; gi_at_call 37; refine (callsIn_round (Decrypt_w key x HK.out HX.out _ _ HI2.out.cip)).mono ?_; rintro e w3 ⟨rfl, hb⟩; have n1 := Aside0.mk (HI2.out.go hb); have n2 := Aside0.mk (HO.out.go hb HI2.out.bel.size); clear HI2 HO hb c1 c2; have HI2 := n1; have HO := n2; clear n1 n2; have c2 : w3.cell? ⟨nc + 1 + 1, 0, none⟩ = some (.string st.2) := HI2.out.last.cell 0 _ rfl)
      | (refine ⟨trivial, ?_⟩; gi_at_call 32; refine (callsIn_round (xor_any (decW key x) st.2 (decW_size _ _) HST.out.2 _)).mono ?_; rintro e w4 ⟨rfl, hb⟩; have n1 := Aside0.mk (HI2.out.go hb); have n2 := Aside0.mk (HO.out.go hb HI2.out.bel.size); clear HI2 HO hb c2; have HI2 := n1; have HO := n2; clear n1 n2)
      | (refine ⟨trivial, ?_⟩; gi_at_call 33; refine (callsIn_round (writeString w.heap.size (nc + 1) st.1 (xorW (decW key x) st.2) _ HI2.out.out (by rw [HST.out.1, xorW_size _ _ (decW_size _ _) HST.out.2]; have := HLEN.out; omega) HI2.out.bel.size)).mono ?_; rintro e w5 ⟨rfl, h2, hb, ho⟩; have n1 := Aside0.mk (HI2.out.put h2 hb ho); have n2 := Aside0.mk (HO.out.put hb ho (bld_block HI2.out.out)); clear HI2 HO hb h2 ho; have HI2 := n1; have HO := n2; clear n1 n2; have c2 : w5.cell? ⟨nc + 1 + 1, 0, none⟩ = some (.string st.2) := HI2.out.last.cell 0 _ rfl; have f2 : w5.frozen? ⟨nc + 1 + 1, 0, none⟩ = false := HI2.out.last.frozen 0))
    have hf := Aside0.mk (open_step (x := x) HI2.out HO.out HIT.out)
    exact ⟨hf.out.1, hf.out.2.1, by show OpenI _ _ _ _ _ _ (openB key first (pre ++ [x])) _; rw [HSN.out]; exact hf.out.2.2⟩
  case done =>
    rintro D xs W hD rfl hI2 hK
    have HI2 := Aside0.mk hI2
    have HKD := Aside0.mk hK
    have HDD := Aside0.mk hD
    have HOL : Aside0 ((openB key first (blocksOf s)).1.length = 16 * (s.size / 16)) := ⟨by rw [openB_length key first HF.out _ (fun b hb => blocksOf_size s b hb), blocksOf_length]⟩
    clear hI2 hK hD
    obtain ⟨o, ho⟩ : ∃ o, o = openB key first (blocksOf s) := ⟨_, rfl⟩
    rw [← ho] at HI2 HOL
    have HOL : Aside0 (8 ≤ (bs o.1).size ∧ (bs o.1).size ≤ 140737488351232) := ⟨by rw [bs_size, HOL.out]; have := HS.out; omega, by rw [bs_size, HOL.out]; have := HS.out; omega⟩
    cases hu : (unframeR (bs o.1)).2
    · have HU := Aside0.mk hu
      have HRR : Aside0 (openR key first s = (⟨#[]⟩, 4)) := ⟨by unfold openR; rw [← ho, hu]; rfl⟩
      clear hu ho
      gi_wp2_with (first
        | (refine ⟨trivial, ?_⟩; gi_at_call 34; refine (callsIn_wide.2 (stringB HI2.out.out HI2.out.bel.size)).mono ?_; rintro e w6 ⟨rfl, h2, hb, ho⟩; have hK6 := ho _ _ HKD.out (by intro e; have := HSZ.out; have := HDD.out; have := HI2.out.lt; cases e; omega) (fun _ _ e => by cases e); have n1 := Aside0.mk (HI2.out.put h2 hb ho); clear HI2 HKD h2 hb ho; have HI2 := n1; have HKD := Aside0.mk hK6; clear n1 hK6)
        | (refine ⟨trivial, ?_⟩; gi_at_call 38; refine (callsIn_wide.2 (unframe_any _ _ HOL.out.1 HOL.out.2)).mono ?_; rintro e w7 ⟨rfl, hb⟩; have hK7 := (hb.block D (Array.getElem?_eq_some_iff.1 HKD.out).1).trans HKD.out; have n1 := Aside0.mk (HI2.out.go hb); clear HI2 HKD hb; have HI2 := n1; have HKD := Aside0.mk hK7; clear n1 hK7; have c1 := HI2.out.r1.cell 0 _ rfl; have c2 := HI2.out.r2.cell 0 _ rfl; have f1 := HI2.out.r1.frozen 0; have f2 := HI2.out.r2.frozen 0; rw [HU.out]))
      obtain ⟨w8, hw8⟩ : ∃ w8, w8 = (w7.setCell ⟨w.heap.size, 0, none⟩ (.string (⟨#[]⟩ : ByteArray))).setCell ⟨w.heap.size + 1, 0, none⟩ (.int .i64 4) := ⟨_, rfl⟩
      rw [← hw8]
      have hb8 : Below w.heap.size w w8 := by rw [hw8]; exact (HI2.out.bel.setCell (by dsimp; omega) _).setCell (by dsimp; omega) _
      have a1 : At w8 w.heap.size 9 [.string (⟨#[]⟩ : ByteArray)] := by rw [hw8]; exact (HI2.out.r1.set 0 _).other _ _ (by dsimp; omega)
      have a2 : At w8 (w.heap.size + 1) 25 [.int .i64 4] := by rw [hw8]; exact (HI2.out.r2.other _ _ (by dsimp; omega)).set 0 _
      have hD : w.heap.size + 1 < D := by have := HSZ.out; have := HDD.out; have := HI2.out.lt; omega
      have hK8 : w8.heap[D]? = some (.deferred (some [])) := by
        rw [hw8, Below.heap_setCell _ _ _ _ (by dsimp; omega), Below.heap_setCell _ _ _ _ (by dsimp; omega)]
        exact HKD.out
      refine ⟨by simp, .inl ⟨_, _, rfl, run_takeDeferred hK8, ?_⟩⟩
      have k1 : ∀ ob, At (w8.putObj D ob) w.heap.size 9 [.string (⟨#[]⟩ : ByteArray)]   := fun ob => ⟨(World.putObj_heap_other (by omega)).trans a1.heap⟩
      have k2 : ∀ ob, At (w8.putObj D ob) (w.heap.size + 1) 25 [.int .i64 4]   := fun ob => ⟨(World.putObj_heap_other (by omega)).trans a2.heap⟩
      refine ⟨_, res_se rfl _ _ _ _ _ _ rfl rfl ((k1 _).cell 0 _ rfl) ((k2 _).cell 0 _ rfl), ?_, ?_⟩
      · rw [HRR.out]
      · exact hb8.trans (belowK_b (w := w) (Nat.le_refl _) w8 D _ _ (by omega) hK8 rfl rfl)
    · have HU := Aside0.mk hu
      have HRR : Aside0 (openR key first s = ((unframeR (bs o.1)).1, 0)) := ⟨by unfold openR; rw [← ho, hu]; rfl⟩
      clear hu ho
      gi_wp2_with (first
        | (refine ⟨trivial, ?_⟩; gi_at_call 34; refine (callsIn_wide.2 (stringB HI2.out.out HI2.out.bel.size)).mono ?_; rintro e w6 ⟨rfl, h2, hb, ho⟩; have hK6 := ho _ _ HKD.out (by intro e; have := HSZ.out; have := HDD.out; have := HI2.out.lt; cases e; omega) (fun _ _ e => by cases e); have n1 := Aside0.mk (HI2.out.put h2 hb ho); clear HI2 HKD h2 hb ho; have HI2 := n1; have HKD := Aside0.mk hK6; clear n1 hK6)
        | (refine ⟨trivial, ?_⟩; gi_at_call 38; refine (callsIn_wide.2 (unframe_any _ _ HOL.out.1 HOL.out.2)).mono ?_; rintro e w7 ⟨rfl, hb⟩; have hK7 := (hb.block D (Array.getElem?_eq_some_iff.1 HKD.out).1).trans HKD.out; have n1 := Aside0.mk (HI2.out.go hb); clear HI2 HKD hb; have HI2 := n1; have HKD := Aside0.mk hK7; clear n1 hK7; have c1 := HI2.out.r1.cell 0 _ rfl; have c2 := HI2.out.r2.cell 0 _ rfl; have f1 := HI2.out.r1.frozen 0; have f2 := HI2.out.r2.frozen 0; rw [HU.out]))
      obtain ⟨w8, hw8⟩ : ∃ w8, w8 = (w7.setCell ⟨w.heap.size, 0, none⟩ (.string (unframeR (bs o.1)).1)).setCell ⟨w.heap.size + 1, 0, none⟩ (.int .i64 0) := ⟨_, rfl⟩
      rw [← hw8]
      have hb8 : Below w.heap.size w w8 := by rw [hw8]; exact (HI2.out.bel.setCell (by dsimp; omega) _).setCell (by dsimp; omega) _
      have a1 : At w8 w.heap.size 9 [.string (unframeR (bs o.1)).1] := by rw [hw8]; exact (HI2.out.r1.set 0 _).other _ _ (by dsimp; omega)
      have a2 : At w8 (w.heap.size + 1) 25 [.int .i64 0] := by rw [hw8]; exact (HI2.out.r2.other _ _ (by dsimp; omega)).set 0 _
      have hD : w.heap.size + 1 < D := by have := HSZ.out; have := HDD.out; have := HI2.out.lt; omega
      have hK8 : w8.heap[D]? = some (.deferred (some [])) := by
        rw [hw8, Below.heap_setCell _ _ _ _ (by dsimp; omega), Below.heap_setCell _ _ _ _ (by dsimp; omega)]
        exact HKD.out
      refine ⟨by simp, .inl ⟨_, _, rfl, run_takeDeferred hK8, ?_⟩⟩
      have k1 : ∀ ob, At (w8.putObj D ob) w.heap.size 9 [.string (unframeR (bs o.1)).1]   := fun ob => ⟨(World.putObj_heap_other (by omega)).trans a1.heap⟩
      have k2 : ∀ ob, At (w8.putObj D ob) (w.heap.size + 1) 25 [.int .i64 0]   := fun ob => ⟨(World.putObj_heap_other (by omega)).trans a2.heap⟩
      refine ⟨_, res_se rfl _ _ _ _ _ _ rfl rfl ((k1 _).cell 0 _ rfl) ((k2 _).cell 0 _ rfl), ?_, ?_⟩
      · rw [HRR.out]
      · exact hb8.trans (belowK_b (w := w) (Nat.le_refl _) w8 D _ _ (by omega) hK8 rfl rfl)
theorem open_arg (key first s : ByteArray) (w : World) (h : ¬ (key.size = 32 ∧ first.size = 16)) :
    Calls Try.prog 22 #[.string key, .string first, .string s] w fun e w' => e = .returned (.tuple #[.string (⟨#[]⟩ : ByteArray), .int .i64 1]) ∧ Below w.heap.size w w' := by
  have H := Aside0.mk h
  clear h
  go_enter Try.func22, Try.ntmps22
  go_wp2_with (go_at_call 28; refine (begin_arg key first H.out _).mono ?_; rintro e wA ⟨rfl, rfl⟩)
  refine bodyPost_ret (res_se rfl _ _ _ _ _ _ rfl rfl ?_ ?_) rfl ⟨rfl, ?_⟩
  · exact (((At.new w _ _).alloc _).alloc _).cell 0 _ rfl
  · exact ((At.newAt (by simp)).alloc _).cell 0 _ rfl
  · exact (((Below.refl _ w).alloc (Nat.le_refl _) _).alloc (by simp) _).alloc (by simp; omega) _
set_option maxHeartbeats 1000000 in
theorem open_form (key first s : ByteArray) (w : World) (hk : key.size = 32) (hf : first.size = 16) (hs : s.size = 0 ∨ s.size % 16 ≠ 0) :
    Calls Try.prog 22 #[.string key, .string first, .string s] w fun e w' => e = .returned (.tuple #[.string (⟨#[]⟩ : ByteArray), .int .i64 4]) ∧ Below w.heap.size w w' := by
  have HK := Aside0.mk hk
  have HF := Aside0.mk hf
  clear hk hf
  by_cases h0 : s.size = 0
  · have hn : s.toList.isEmpty = true := by
      rw [Go.Lib.toList_data, List.isEmpty_iff]
      exact List.length_eq_zero_iff.1 (by rw [toList_length, h0])
    clear hs h0
    go_enter Try.func22, Try.ntmps22
    go_wp2_with (go_at_call 28; refine (begin_ok key first HK.out HF.out _).mono ?_; rintro e wA ⟨rfl, hc, hb⟩; have n1 := resultsAt w wA hb; have HC := Aside0.mk n1; have c1 := n1.1.cell 0 _ rfl; have c2 := n1.2.1.cell 0 _ rfl; have f1 := n1.1.frozen 0; have f2 := n1.2.1.frozen 0; have l2 := n1.2.2.2; have l1 : w.heap.size < wA.heap.size := (by omega); clear n1 hc hb)
    refine bodyPost_ret (res_se rfl _ _ _ _ _ _ rfl rfl ?_ ?_) rfl ⟨rfl, ?_⟩
    · exact ((((HC.out.1.set 0 _).other _ _ (by dsimp; omega)).alloc _).cell 0 _ rfl)
    · exact ((((HC.out.2.1.other _ _ (by dsimp; omega)).set 0 _).alloc _).cell 0 _ rfl)
    · exact ((HC.out.2.2.1.setCell (by dsimp; omega) _).setCell (by dsimp; omega) _).alloc (by simp; omega) _
  · have hn : s.toList.isEmpty = false := by
      rw [Go.Lib.toList_data, List.isEmpty_eq_false_iff]
      intro e
      exact h0 (by rw [← toList_length, e]; rfl)
    have hm : ¬ ((s.size : Int) % 16 = 0) := by omega
    have hm2 : ¬ ((s.size : Int).tmod 16 = 0) := by rw [Int.tmod_eq_emod_of_nonneg (by omega)]; exact hm
    clear hs h0
    go_enter Try.func22, Try.ntmps22
    go_wp2_with (go_at_call 28; refine (begin_ok key first HK.out HF.out _).mono ?_; rintro e wA ⟨rfl, hc, hb⟩; have n1 := resultsAt w wA hb; have HC := Aside0.mk n1; have c1 := n1.1.cell 0 _ rfl; have c2 := n1.2.1.cell 0 _ rfl; have f1 := n1.1.frozen 0; have f2 := n1.2.1.frozen 0; have l2 := n1.2.2.2; have l1 : w.heap.size < wA.heap.size := (by omega); clear n1 hc hb)
    refine bodyPost_ret (res_se rfl _ _ _ _ _ _ rfl rfl ?_ ?_) rfl ⟨rfl, ?_⟩
    · exact ((((HC.out.1.set 0 _).other _ _ (by dsimp; omega)).alloc _).cell 0 _ rfl)
    · exact ((((HC.out.2.1.other _ _ (by dsimp; omega)).set 0 _).alloc _).cell 0 _ rfl)
    · exact ((HC.out.2.2.1.setCell (by dsimp; omega) _).setCell (by dsimp; omega) _).alloc (by simp; omega) _
/-- What cbc.Open tells. -/
def cbc_Open.f (a0 a1 a2 : ByteArray) : Option (ByteArray × Int) :=
  if a0.size = 32 ∧ a1.size = 16 then (if a2.size = 0 ∨ a2.size % 16 ≠ 0 then some (⟨#[]⟩, 4) else (if a2.size ≤ 140737488351232 then some (openR a0 a1 a2) else none)) else some (⟨#[]⟩, 1)
theorem cbc_Open.calls (a0 a1 a2 : ByteArray) (r1 : ByteArray) (r2 : Int) (w : World) (h : cbc_Open.f a0 a1 a2 = some (r1, r2)) :
    Calls Try.prog 22 #[.string a0, .string a1, .string a2] w fun e w' => e = .returned (.tuple #[.string r1, .int .i64 r2]) ∧ Below w.heap.size w w' := by
  unfold cbc_Open.f at h
  split at h
  · rename_i hk
    split at h
    · rename_i hd
      simp only [Option.some.injEq, Prod.mk.injEq] at h
      obtain ⟨rfl, rfl⟩ := h
      exact open_form a0 a1 a2 w hk.1 hk.2 hd
    · rename_i hd
      split at h
      · rename_i hl
        have h2 := open_ok a0 a1 a2 w hk.1 hk.2 (fun e => hd (.inl e)) (by have : ¬ (a2.size % 16 ≠ 0) := fun e => hd (.inr e); omega) hl
        rw [Option.some.inj h] at h2
        exact h2
      · cases h
  · rename_i hk
    simp only [Option.some.injEq, Prod.mk.injEq] at h
    obtain ⟨rfl, rfl⟩ := h
    exact open_arg a0 a1 a2 w hk
end Go.Proofs.Ytdegeodegjmddaa.Given

namespace Go.Proofs.Ytdegeodegjmddaa.Given
open Go.Proofs.Ytdegeodegjmddaa.Row Go.Proofs.Ytdegeodegjmddaa.Aes Go.Proofs.Ytdegeodegjmddaa.Cbc
set_option linter.unusedVariables false
set_option linter.unusedSimpArgs false
/-- Blocks, one behind the other. -/
def cat (l : List ByteArray) : List UInt8 := l.flatMap (·.data.toList)
theorem cat_cons (b : ByteArray) (l : List ByteArray) : cat (b :: l) = b.data.toList ++ cat l := by simp [cat]
theorem cat_append (l m : List ByteArray) : cat (l ++ m) = cat l ++ cat m := by simp [cat]
theorem cat_length (l : List ByteArray) (h : ∀ b ∈ l, b.size = 16) : (cat l).length = 16 * l.length := by
  induction l with
  | nil => rfl
  | cons b l ih =>
    rw [cat_cons, List.length_append, toList_length, h b (List.mem_cons_self ..), ih (fun c hc => h c (List.mem_cons_of_mem _ hc)), List.length_cons]
    omega
theorem ba_ext {a b : ByteArray} (h : a.data.toList = b.data.toList) : a = b := by rw [← bs_data a, ← bs_data b, h]
theorem extract_list (s : ByteArray) (i j : Nat) : (s.extract i j).data.toList = (s.data.toList.take j).drop i := by
  rw [ByteArray.data_extract, Array.toList_extract, List.extract_eq_take_drop, List.drop_take]
/-- The blocks of blocks are these. -/
theorem blocksOf_cat (l : List ByteArray) (h : ∀ b ∈ l, b.size = 16) : blocksOf (bs (cat l)) = l := by
  have hl := cat_length l h
  apply List.ext_getElem?
  intro j
  by_cases hj : j < l.length
  · have hj2 : j < (bs (cat l)).size / 16 := by rw [bs_size, hl]; omega
    rw [blocksOf, List.getElem?_map, List.getElem?_range hj2, List.getElem?_eq_getElem hj]
    simp only [Option.map_some, Option.some.injEq]
    apply ba_ext
    rw [extract_list, bs_toList]
    have e : l = l.take j ++ l[j] :: l.drop (j + 1) := by rw [List.getElem_cons_drop, List.take_append_drop]
    have h1 : (cat (l.take j)).length = 16 * j := by rw [cat_length _ (fun b hb => h b (List.mem_of_mem_take hb)), List.length_take, Nat.min_eq_left (by omega)]
    have h2 : l[j].data.toList.length = 16 := by rw [toList_length, h _ (List.getElem_mem hj)]
    have e2 : cat l = cat (l.take j) ++ (l[j].data.toList ++ cat (l.drop (j + 1))) := by
      conv => lhs; rw [e]
      rw [cat_append, cat_cons]
    rw [e2, ← List.append_assoc, List.take_append_of_le_length (by rw [List.length_append, h1, h2]; exact Nat.le_refl _), List.take_of_length_le (by rw [List.length_append, h1, h2]; exact Nat.le_refl _), ← h1, List.drop_left]
  · have hj2 : ¬ j < (bs (cat l)).size / 16 := by rw [bs_size, hl]; omega
    rw [List.getElem?_eq_none (by rw [blocksOf_length]; omega), List.getElem?_eq_none (by omega)]
/-- A text of whole blocks is its blocks. -/
theorem cat_blocksOf (s : ByteArray) (h : s.size % 16 = 0) : cat (blocksOf s) = s.data.toList := by
  have key : ∀ n, 16 * n ≤ s.size → cat ((List.range n).map fun k => s.extract (16 * k) (16 * k + 16)) = s.data.toList.take (16 * n) := by
    intro n
    induction n with
    | zero => intro _; rfl
    | succ n ih =>
      intro hn
      rw [List.range_succ, List.map_append, cat_append, ih (by omega)]
      simp only [List.map_cons, List.map_nil, cat_cons]
      rw [extract_list]
      have : cat [] = [] := rfl
      rw [this, List.append_nil]
      have e : 16 * (n + 1) = 16 * n + 16 := by omega
      rw [e]
      conv => rhs; rw [← List.take_append_drop (16 * n) (List.take (16 * n + 16) s.data.toList)]
      rw [List.take_take, Nat.min_eq_left (by omega)]
  rw [blocksOf, key _ (by omega), List.take_of_length_le]
  rw [toList_length]
  omega
/-- Sealed blocks; opened ones. -/
def chainC (key : ByteArray) : ByteArray → List ByteArray → List ByteArray
  | _, [] => []
  | last, b :: l => encW key (xorW b last) :: chainC key (encW key (xorW b last)) l
def plainC (key : ByteArray) : ByteArray → List ByteArray → List ByteArray
  | _, [] => []
  | last, b :: l => xorW (decW key b) last :: plainC key b l
theorem sealF_chain (key : ByteArray) (l : List ByteArray) : ∀ st, (l.foldl (sealGo key) st).1 = st.1 ++ cat (chainC key st.2 l) := by
  induction l with
  | nil => intro st; simp [chainC, cat]
  | cons b l ih =>
    intro st
    rw [List.foldl_cons, ih, chainC, cat_cons]
    simp only [sealGo, List.append_assoc]
theorem sealB_chain (key first : ByteArray) (l : List ByteArray) : (sealB key first l).1 = cat (chainC key first l) := by rw [sealB, sealF_chain]; rfl
theorem openF_plain (key : ByteArray) (l : List ByteArray) : ∀ st, (l.foldl (openGo key) st).1 = st.1 ++ cat (plainC key st.2 l) := by
  induction l with
  | nil => intro st; simp [plainC, cat]
  | cons b l ih =>
    intro st
    rw [List.foldl_cons, ih, plainC, cat_cons]
    simp only [openGo, List.append_assoc]
theorem openB_plain (key first : ByteArray) (l : List ByteArray) : (openB key first l).1 = cat (plainC key first l) := by rw [openB, openF_plain]; rfl
theorem chainC_length (key : ByteArray) (l : List ByteArray) : ∀ last, (chainC key last l).length = l.length := by
  induction l with
  | nil => intro _; rfl
  | cons b l ih => intro last; simp [chainC, ih]
theorem chainC_size (key : ByteArray) (l : List ByteArray) : ∀ last, ∀ b ∈ chainC key last l, b.size = 16 := by
  induction l with
  | nil => intro _ b hb; simp [chainC] at hb
  | cons b l ih =>
    intro last c hc
    simp only [chainC, List.mem_cons] at hc
    rcases hc with rfl | hc
    · exact encW_size _ _
    · exact ih _ c hc
theorem plainC_length (key : ByteArray) (l : List ByteArray) : ∀ last, (plainC key last l).length = l.length := by
  induction l with
  | nil => intro _; rfl
  | cons b l ih => intro last; simp [plainC, ih]
theorem plainC_size (key : ByteArray) (l : List ByteArray) (h : ∀ b ∈ l, b.size = 16) : ∀ last, last.size = 16 → ∀ b ∈ plainC key last l, b.size = 16 := by
  induction l with
  | nil => intro _ _ b hb; simp [plainC] at hb
  | cons b l ih =>
    intro last hl c hc
    simp only [plainC, List.mem_cons] at hc
    rcases hc with rfl | hc
    · exact xorW_size _ _ (decW_size _ _) hl
    · exact ih (fun d hd => h d (List.mem_cons_of_mem _ hd)) b (h b (List.mem_cons_self ..)) c hc
theorem xor_xor (a b : ByteArray) (ha : a.size = 16) (hb : b.size = 16) : xorW (xorW a b) b = a := by
  apply ba_ext
  rw [xorW, xorW, bs_toList, bs_toList]
  apply List.ext_getElem?
  intro j
  have h1 : a.data.toList.length = 16 := by rw [toList_length, ha]
  have h2 : b.data.toList.length = 16 := by rw [toList_length, hb]
  simp only [xorL, List.getElem?_zipWith]
  by_cases hj : j < 16
  · rw [List.getElem?_eq_getElem (by omega), List.getElem?_eq_getElem (by omega)]
    simp only [Option.some.injEq]
    rw [UInt8.xor_assoc, UInt8.xor_self, UInt8.xor_zero]
  · rw [List.getElem?_eq_none (by omega), List.getElem?_eq_none (by omega)]
theorem plain_chain (key : ByteArray) (hk : key.size = 32) (l : List ByteArray) (h : ∀ b ∈ l, b.size = 16) : ∀ last, last.size = 16 → plainC key last (chainC key last l) = l := by
  induction l with
  | nil => intro _ _; rfl
  | cons b l ih =>
    intro last hl
    have hb := h b (List.mem_cons_self ..)
    rw [chainC, plainC, decW_encW _ _ hk (xorW_size _ _ hb hl), xor_xor _ _ hb hl, ih (fun d hd => h d (List.mem_cons_of_mem _ hd)) _ (encW_size _ _)]
theorem chain_plain (key : ByteArray) (hk : key.size = 32) (l : List ByteArray) (h : ∀ b ∈ l, b.size = 16) : ∀ last, last.size = 16 → chainC key last (plainC key last l) = l := by
  induction l with
  | nil => intro _ _; rfl
  | cons b l ih =>
    intro last hl
    have hb := h b (List.mem_cons_self ..)
    rw [plainC, chainC, xor_xor _ _ (decW_size _ _) hl, encW_decW _ _ hk hb, ih (fun d hd => h d (List.mem_cons_of_mem _ hd)) _ hb]
/-- A frame, sealed. -/
def sealW (key first data : ByteArray) : ByteArray := bs (cat (chainC key first (blocksOf (frameW data))))
theorem frameW_size (d : ByteArray) : (frameW d).size = 8 + d.size + pad d.size := by rw [frameW, bs_size, frameL_length, toList_length]
theorem frameW_mod (d : ByteArray) : (frameW d).size % 16 = 0 := by rw [frameW, bs_size]; exact frameL_mod _
theorem sealW_size (key first data : ByteArray) : (sealW key first data).size = (frameW data).size := by
  rw [sealW, bs_size, cat_length _ (chainC_size _ _ _), chainC_length, blocksOf_length]
  have := frameW_mod data
  omega
theorem blocks_sealW (key first data : ByteArray) : blocksOf (sealW key first data) = chainC key first (blocksOf (frameW data)) := blocksOf_cat _ (chainC_size _ _ _)
theorem seal_f (key first data : ByteArray) (hk : key.size = 32) (hf : first.size = 16) (hd : data.size ≤ 1048576) : cbc_Seal.f key first data = some (sealW key first data, 0) := by
  unfold cbc_Seal.f
  rw [if_pos ⟨hk, hf⟩, if_pos hd, sealB_chain, sealW]
theorem seal_f_arg (key first data : ByteArray) (h : ¬ (key.size = 32 ∧ first.size = 16)) : cbc_Seal.f key first data = some (⟨#[]⟩, 1) := by
  unfold cbc_Seal.f
  rw [if_neg h]
theorem be8_num (n : Nat) (h : n < 256 ^ 8) : numL (be8 n) = n := by
  simp only [be8, numL, List.range_succ, List.range_zero, List.nil_append, List.cons_append, List.map_cons, List.map_nil, List.foldl_cons, List.foldl_nil, UInt8.toNat_ofNat', Nat.reduceSub, Nat.reduceMul, Nat.reducePow]
  omega
theorem frame_take8 (d : ByteArray) : (frameW d).data.toList.take 8 = be8 d.size := by
  rw [frameW, bs_toList, frameL, List.append_assoc, List.take_append_of_le_length (by rw [be8_length]; exact Nat.le_refl _), List.take_of_length_le (by rw [be8_length]; exact Nat.le_refl _), toList_length]
theorem frame_data (d : ByteArray) : (frameW d).extract 8 (8 + d.size) = d := by
  apply ba_ext
  rw [extract_list, frameW, bs_toList, frameL, List.append_assoc]
  have h1 : (be8 d.data.toList.length).length = 8 := be8_length _
  rw [List.take_append, h1, List.take_of_length_le (by omega), List.drop_append, h1, List.drop_of_length_le (by omega)]
  simp only [Nat.sub_self, List.drop_zero, List.nil_append]
  rw [show 8 + d.size - 8 = d.data.toList.length from by rw [toList_length]; omega, List.take_left]
/-- The data of a frame are these. -/
theorem unframe_frame (d : ByteArray) (hd : d.size ≤ 1048576) : unframeR (frameW d) = (d, true) := by
  have hn : numL ((frameW d).data.toList.take 8) = d.size := by rw [frame_take8, be8_num _ (by omega)]
  unfold unframeR
  rw [hn, if_neg (by rw [frameW_size]; omega), frame_data]
  simp
theorem unframe_true (s c : ByteArray) (h : unframeR s = (c, true)) : frameW c = s ∧ c.size ≤ 1048576 := by
  unfold unframeR at h
  split at h
  · cases h
  · rename_i hc
    simp only [Prod.mk.injEq] at h
    obtain ⟨rfl, h2⟩ := h
    refine ⟨toList_inj (by simpa using h2), ?_⟩
    rw [ByteArray.size_extract]
    omega
theorem open_f (key first s : ByteArray) (hk : key.size = 32) (hf : first.size = 16) (h0 : s.size ≠ 0) (hm : s.size % 16 = 0) (hs : s.size ≤ 140737488351232) : cbc_Open.f key first s = some (openR key first s) := by
  unfold cbc_Open.f
  rw [if_pos ⟨hk, hf⟩, if_neg (by omega), if_pos hs]
theorem open_f_arg (key first s : ByteArray) (h : ¬ (key.size = 32 ∧ first.size = 16)) : cbc_Open.f key first s = some (⟨#[]⟩, 1) := by
  unfold cbc_Open.f
  rw [if_neg h]
theorem open_f_form (key first s : ByteArray) (hk : key.size = 32) (hf : first.size = 16) (h : s.size = 0 ∨ s.size % 16 ≠ 0) : cbc_Open.f key first s = some (⟨#[]⟩, 4) := by
  unfold cbc_Open.f
  rw [if_pos ⟨hk, hf⟩, if_pos h]
/-- Opening what is sealed. -/
theorem open_seal (key first data : ByteArray) (hk : key.size = 32) (hf : first.size = 16) (hd : data.size ≤ 1048576) : openR key first (sealW key first data) = (data, 0) := by
  have e : bs (openB key first (blocksOf (sealW key first data))).1 = frameW data := by
    rw [openB_plain, blocks_sealW, plain_chain key hk _ (fun b hb => blocksOf_size _ b hb) first hf, cat_blocksOf _ (frameW_mod data), bs_data]
  unfold openR
  rw [e, unframe_frame data hd]
  rfl
/-- Sealing what is opened. -/
theorem seal_open (key first s c : ByteArray) (hk : key.size = 32) (hf : first.size = 16) (hm : s.size % 16 = 0) (h : openR key first s = (c, 0)) : sealW key first c = s ∧ c.size ≤ 1048576 := by
  unfold openR at h
  split at h
  · rename_i hu
    simp only [Prod.mk.injEq, and_true] at h
    obtain ⟨h1, h2⟩ := unframe_true _ c (Prod.ext h hu)
    refine ⟨?_, h2⟩
    have hp := plainC_size key (blocksOf s) (fun b hb => blocksOf_size _ b hb) first hf
    rw [sealW, h1, openB_plain, blocksOf_cat _ hp, chain_plain key hk _ (fun b hb => blocksOf_size _ b hb) first hf, cat_blocksOf _ hm, bs_data]
  · simp at h
/-- A sealed text without its last block is refused. -/
theorem plainC_take (key : ByteArray) (n : Nat) : ∀ (l : List ByteArray) last, plainC key last (l.take n) = (plainC key last l).take n := by
  induction n with
  | zero => intro l last; simp [plainC]
  | succ n ih =>
    intro l last
    cases l with
    | nil => simp [plainC]
    | cons b l => simp [plainC, ih]
theorem blocksOf_take (s : ByteArray) (n : Nat) (h : 16 * n ≤ s.size) : blocksOf (s.extract 0 (16 * n)) = (blocksOf s).take n := by
  have hs : (s.extract 0 (16 * n)).size = 16 * n := by rw [ByteArray.size_extract]; omega
  apply List.ext_getElem?
  intro j
  rw [List.getElem?_take]
  by_cases hj : j < n
  · rw [if_pos hj, blocksOf, blocksOf, List.getElem?_map, List.getElem?_map, List.getElem?_range (by omega), List.getElem?_range (by omega)]
    simp only [Option.map_some, Option.some.injEq]
    apply ba_ext
    rw [extract_list, extract_list, extract_list, List.drop_zero, List.take_take, Nat.min_eq_left (by omega)]
  · rw [if_neg hj, List.getElem?_eq_none (by rw [blocksOf_length]; omega)]
theorem cat_take (l : List ByteArray) (h : ∀ b ∈ l, b.size = 16) (n : Nat) (hn : n ≤ l.length) : cat (l.take n) = (cat l).take (16 * n) := by
  have e : cat l = cat (l.take n) ++ cat (l.drop n) := by rw [← cat_append, List.take_append_drop]
  have h1 : (cat (l.take n)).length = 16 * n := by rw [cat_length _ (fun b hb => h b (List.mem_of_mem_take hb)), List.length_take, Nat.min_eq_left hn]
  rw [e, ← h1, List.take_left]
theorem open_short (key first data : ByteArray) (hk : key.size = 32) (hf : first.size = 16) (hd : data.size ≤ 1048576) (n : Nat) (h16 : 16 < (frameW data).size) (hn : 16 * n + 16 = (frameW data).size) :
    openR key first ((sealW key first data).extract 0 (16 * n)) = (⟨#[]⟩, 4) := by
  have hsz := sealW_size key first data
  have e : (openB key first (blocksOf ((sealW key first data).extract 0 (16 * n)))).1 = (frameW data).data.toList.take (16 * n) := by
    rw [openB_plain, blocksOf_take _ _ (by omega), blocks_sealW, plainC_take, plain_chain key hk _ (fun b hb => blocksOf_size _ b hb) first hf,
      cat_take _ (fun b hb => blocksOf_size _ b hb) _ (by rw [blocksOf_length]; omega), cat_blocksOf _ (frameW_mod data)]
  have hu : unframeR (bs ((frameW data).data.toList.take (16 * n))) = (⟨#[]⟩, false) := by
    have h8 : (bs ((frameW data).data.toList.take (16 * n))).data.toList.take 8 = be8 data.size := by
      rw [bs_toList, List.take_take, Nat.min_eq_left (by omega), frame_take8]
    have hs2 : (bs ((frameW data).data.toList.take (16 * n))).size = 16 * n := by rw [bs_size, List.length_take, toList_length, Nat.min_eq_left (by omega)]
    unfold unframeR
    rw [h8, be8_num _ (by omega), hs2, if_pos]
    left
    have hfz := frameW_size data
    unfold pad at hfz
    omega
  unfold openR
  rw [e, hu]
  rfl
end Go.Proofs.Ytdegeodegjmddaa.Given

namespace Go.Proofs.Ytdegeodegjmddaa.Given
open Go.RowKit Go.Proofs.YtdegeodegjmddaaW.PrintWords Go.Proofs.YtdegeodegjmddaaW.PrintLast Go.Proofs.YtdegeodegjmddaaW.PrintMore
open Go.Proofs.Ytdegeodegjmddaa.Row Go.Proofs.Ytdegeodegjmddaa.Aes Go.Proofs.Ytdegeodegjmddaa.Row.At Go.Proofs.Ytdegeodegjmddaa.Cbc
set_option maxRecDepth 100000
set_option linter.unusedVariables false
set_option linter.unusedSimpArgs false
/-- so many bytes 0 -/
def nul (n : Nat) : ByteArray := bs (List.replicate n 0)
theorem nul_size (n : Nat) : (nul n).size = n := by rw [nul, bs_size, List.length_replicate]
theorem nul_conv (w : World) (g n : Nat) (t : TypeId) (h : ∀ j, j < n → w.cell? ⟨g, j, none⟩ = some (.int .u8 0)) :
    (convert 43 9 (.slice (some ⟨g, 0, none⟩) n n)).run Try.prog w = .ok (.string (nul n)) w := by
  have := run_convert_bytes_back (P := Try.prog) w 43 9 5 ⟨g, 0, none⟩ n (List.replicate n 0) Try.underlying43 Try.underlying5 Try.underlying9 (fun j hj => by
    rw [List.length_replicate] at hj
    rw [Addr.add_mid, Nat.zero_add, h j hj]
    simp)
  rwa [List.length_replicate] at this
theorem nul_at (w X : World) (g n N : Nat) (hX : X.heap[g]? = some (.cells (madeCells #[.int .u8 0] N) 5 (0, 0))) (hn : n ≤ N) :
    (convert 43 9 (.slice (some ⟨g, 0, none⟩) n n)).run Try.prog X = .ok (.string (nul n)) X :=
  nul_conv X g n 5 fun j hj => by
    rw [cell_of_row X g j _ _ _ hX]
    have := congrArg (fun l => l[j]?) (toList_madeCells_one (.int .u8 0) N)
    simp only [List.getElem?_replicate, Array.getElem?_toList] at this
    rw [this, if_pos (by omega)]
end Go.Proofs.Ytdegeodegjmddaa.Given
