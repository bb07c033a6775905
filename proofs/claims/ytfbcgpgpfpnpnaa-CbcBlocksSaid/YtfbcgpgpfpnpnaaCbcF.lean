/- The contract of cbc.Open. Conditions: at most 2^46 bytes; unframe by its printed contract. -/
import Derived.Test.YtfbcgpgpfpnpnaaCbcE
import Derived.Test.YtfbcgpgpfpnpnaaCbcU
import Derived.Shelf.RegionOpen
namespace Go.Proofs.Ytfbcgpgpfpnpnaa.Given
open Go.RowKit Go.Proofs.YtfbcgpgpfpnpnaaW.PrintWords Go.Proofs.YtfbcgpgpfpnpnaaW.PrintLast Go.Proofs.YtfbcgpgpfpnpnaaW.PrintMore
open Go.Proofs.Ytfbcgpgpfpnpnaa.Row Go.Proofs.Ytfbcgpgpfpnpnaa.Aes Go.Proofs.Ytfbcgpgpfpnpnaa.Row.At Go.Proofs.Ytfbcgpgpfpnpnaa.Cbc Go.Proofs.Ytfbcgpgpfpnpnaa.Range
set_option maxRecDepth 100000
set_option linter.unusedVariables false
set_option linter.unusedSimpArgs false
attribute [local go_sem] Oper.semAt_some
/-- Between two rounds of Open's loop: the results' variables (n0, n0 + 1), the cipher, its pointer (nc), the builder (nc + 1), the last block (nc + 2), the iterator's variable. -/
structure OpenI (w : World) (key : ByteArray) (nc g Bl : Nat) (fr : ByteArray) (st : List UInt8 × ByteArray) (W : World) : Prop where
  r1 : At W w.heap.size 9 [.string (⟨#[]⟩ : ByteArray)]
  r2 : At W (w.heap.size + 1) 23 [.int .i64 0]
  c : At W nc 22 [.pointer (some ⟨g, 0, none⟩)]
  out : Bld w.heap.size (nc + 1) st.1 W
  last : At W (nc + 2) 9 [.string st.2]
  cip : At W g 49 (b8s (cipher key.data.toList))
  it : At W Bl 9 [.string fr]
  bel : Below w.heap.size w W
  lt : w.heap.size + 1 < nc ∧ nc + 2 < Bl ∧ w.heap.size ≤ g ∧ g < nc
section
variable {w W W' : World} {key fr : ByteArray} {nc g Bl : Nat} {st : List UInt8 × ByteArray}
theorem OpenI.go (h : OpenI w key nc g Bl fr st W) (hb : Below W.heap.size W W') : OpenI w key nc g Bl fr st W' :=
  ⟨at_go h.r1 hb, at_go h.r2 hb, at_go h.c hb, bld_below h.out hb, at_go h.last hb, at_go h.cip hb, at_go h.it hb, h.bel.trans (hb.mono h.bel.size), h.lt⟩
theorem OpenI.calm (h : OpenI w key nc g Bl fr st W) {B : Nat} (hc : Range.Calm B W W') (hB : w.heap.size ≤ B) : OpenI w key nc g Bl fr st W' :=
  ⟨at_calm h.r1 hc, at_calm h.r2 hc, at_calm h.c hc, bld_calm h.out hc, at_calm h.last hc, at_calm h.cip hc, at_calm h.it hc, h.bel.trans (hc.below hB h.bel.size), h.lt⟩
theorem OpenI.put (h : OpenI w key nc g Bl fr st W) {l : List UInt8} (hb : Bld w.heap.size (nc + 1) l W') (hbl : Below w.heap.size W W') (ho : Lib.OthersKept 5 (some (nc + 1)) W W') : OpenI w key nc g Bl fr (l, st.2) W' := by
  have hl := h.lt
  exact ⟨at_others h.r1 ho (by omega) (by decide), at_others h.r2 ho (by omega) (by decide), at_others h.c ho (by omega) (by decide), hb, at_others h.last ho (by omega) (by decide), at_others h.cip ho (by omega) (by decide), at_others h.it ho (by omega) (by decide), h.bel.trans hbl, hl⟩
theorem OpenI.wrote (h : OpenI w key nc g Bl fr st W) (x : ByteArray) : OpenI w key nc g Bl fr (st.1, x) (W.setCell ⟨nc + 1 + 1, 0, none⟩ (.string x)) := by
  have hl := h.lt
  exact ⟨h.r1.other _ _ (by dsimp; omega), h.r2.other _ _ (by dsimp; omega), h.c.other _ _ (by dsimp; omega), bld_cell h.out h.last (by omega) (by decide) _ _, h.last.set 0 _, h.cip.other _ _ (by dsimp; omega), h.it.other _ _ (by dsimp; omega), h.bel.setCell (by dsimp; omega) _, hl⟩
theorem open_step {D : Nat} {x : ByteArray} {l : List UInt8} (h : OpenI w key nc g Bl fr (l, st.2) W') (hs : Stp D w.heap.size W W') (hit : W.heap[Bl]? = some (.cells #[.string fr] 9 (0, 0))) :
    Others D W (W'.setCell ⟨nc + 1 + 1, 0, none⟩ (.string x)) ∧ KpB w.heap.size Bl W (W'.setCell ⟨nc + 1 + 1, 0, none⟩ (.string x)) ∧ OpenI w key nc g Bl fr (l, x) (W'.setCell ⟨nc + 1 + 1, 0, none⟩ (.string x)) := by
  have hl := h.lt
  have hI := h.wrote x
  have hS := hs.cell h.last (by omega) (.string x)
  exact ⟨hS.1, ⟨hS.2, hI.it.heap.trans hit.symm⟩, hI⟩
end
theorem openI_start (w wA : World) (key first fr : ByteArray)
    (h1 : At wA ((w.alloc (.cells #[.string (⟨#[]⟩ : ByteArray)] 9 (0, 0))).alloc (.cells #[.int .i64 0] 23 (0, 0))).heap.size 49 (b8s (cipher key.data.toList)))
    (h2 : Below ((w.alloc (.cells #[.string (⟨#[]⟩ : ByteArray)] 9 (0, 0))).alloc (.cells #[.int .i64 0] 23 (0, 0))).heap.size ((w.alloc (.cells #[.string (⟨#[]⟩ : ByteArray)] 9 (0, 0))).alloc (.cells #[.int .i64 0] 23 (0, 0))) wA) :
    OpenI w key wA.heap.size (w.heap.size + 1 + 1) (wA.heap.size + 1 + 1 + 1) fr ([], first) ((((wA.alloc (.cells #[.pointer (some ⟨w.heap.size + 1 + 1, 0, none⟩)] 22 (0, 0))).alloc (.cells #[.pointer none, .slice none 0 0] 62 (0, 0))).alloc (.cells #[.string first] 9 (0, 0))).alloc (.cells #[.string fr] 9 (0, 0))) := by
  have hsA : w.heap.size + 1 + 1 < wA.heap.size := by have := h1.lt; simpa using this
  obtain ⟨q1, q2, hb0, _⟩ := resultsAt w wA h2
  have q3 : At wA (w.heap.size + 1 + 1) 49 (b8s (cipher key.data.toList)) := by simpa using h1
  refine ⟨(((q1.alloc _).alloc _).alloc _).alloc _, (((q2.alloc _).alloc _).alloc _).alloc _, (((At.new wA _ _).alloc _).alloc _).alloc _, ?_, (At.newAt (by simp)).alloc _, (((q3.alloc _).alloc _).alloc _).alloc _, At.newAt (by simp), ?_, by omega⟩
  · have := freshBld (wA.alloc (.cells #[.pointer (some ⟨w.heap.size + 1 + 1, 0, none⟩)] 22 (0, 0)))
    have h4 := bld_mono (B' := w.heap.size) this (by simp; omega)
    have e : (wA.alloc (.cells #[.pointer (some ⟨w.heap.size + 1 + 1, 0, none⟩)] 22 (0, 0))).heap.size = wA.heap.size + 1 := by simp
    rw [e] at h4
    exact bld_alloc (bld_alloc h4 _) _
  · exact (((hb0.alloc (by omega) _).alloc (by simp; omega) _).alloc (by simp; omega) _).alloc (by simp; omega) _
/-- What Open tells of a text of whole blocks. -/
def openR (key first s : ByteArray) : ByteArray × Int :=
  if (unframeR (bs (openB key first (blocksOf s)).1)).2 = true then ((unframeR (bs (openB key first (blocksOf s)).1)).1, 0) else (⟨#[]⟩, 4)
set_option maxHeartbeats 2000000 in
theorem open_ok (key first s : ByteArray) (w : World) (hk : key.size = 32) (hf : first.size = 16) (hs0 : s.size ≠ 0) (hs : s.size % 16 = 0) (hl : s.size ≤ 140737488351232) :
    Calls Try.prog 24 #[.string key, .string first, .string s] w fun e w' => e = .returned (.tuple #[.string (openR key first s).1, .int .i64 (openR key first s).2]) ∧ Below w.heap.size w w' := by
  refine callsIn_wide (n := 6) |>.1 ?_
  refine callsIn_of_wp_marks Try.func24 rfl trivial ?_ rfl
  simp only [Try.ntmps24, List.size_toArray, List.length_cons, List.length_nil, Nat.reduceAdd, Nat.reduceSub, Array.replicate_succ, Array.replicate_zero, List.push_toArray, List.append_toArray, List.nil_append, List.cons_append]
  have HK := Aside0.mk hk
  have HF := Aside0.mk hf
  have HS := Aside0.mk (And.intro hs0 (And.intro hs hl))
  have hn : s.toList.isEmpty = false := by
    rw [Go.Lib.toList_data, List.isEmpty_eq_false_iff]
    intro e
    exact hs0 (by rw [← toList_length, e]; rfl)
  have hm : (s.size : Int).tmod 16 = 0 := by rw [Int.tmod_eq_emod_of_nonneg (by omega)]; omega
  clear hk hf hs0 hs hl
  gi_wp2_with (first
    | (refine ⟨trivial, ?_⟩; gi_at_call 41; refine (callsIn_wide.2 (begin_ok key first HK.out HF.out _)).mono ?_; rintro e wA ⟨rfl, hc, hb⟩; have HC := Aside0.mk (And.intro hc hb); clear hc hb)
    | (refine ⟨trivial, ?_⟩; gi_at_call 42; refine (callsIn_wide.2 (blocks_any _ _)).mono ?_; rintro e wB ⟨rfl, rfl⟩))
  obtain ⟨nc, hnc⟩ : ∃ nc, nc = wA.heap.size := ⟨_, rfl⟩
  have hI := openI_start w wA key first s HC.out.1 HC.out.2
  obtain ⟨w2, hw2⟩ : ∃ w2, w2 = ((((wA.alloc (.cells #[.pointer (some ⟨w.heap.size + 1 + 1, 0, none⟩)] 22 (0, 0))).alloc (.cells #[.pointer none, .slice none 0 0] 62 (0, 0))).alloc (.cells #[.string first] 9 (0, 0))).alloc (.cells #[.string s] 9 (0, 0))) := ⟨_, rfl⟩
  rw [← hw2, ← hnc] at hI
  rw [← hw2, ← hnc]
  have HI := Aside0.mk hI
  have HSZ : Aside0 (w2.heap.size = nc + 1 + 1 + 1 + 1) := ⟨by rw [hw2, hnc]; simp⟩
  clear hw2 hnc hI HC
  refine wp_rangeBy rfl (by omega) (gf := 55) (lb := #[.pointer (some ⟨nc + 1 + 1 + 1, 0, none⟩)]) rfl trivial (enters_of Try.func55 (by kernel_rfl) rfl)
    (blocks_seq s w w2 _ (nc + 1 + 1 + 1) w.heap.size (by have := HS.out.2.2; omega) HI.out.it)
    ?hSt (fun h k => ⟨h.1.trans k.1, k.2.trans h.2⟩) ?hKb (fun _ => rfl) (fun pre W => OpenI w key nc (w.heap.size + 1 + 1) (nc + 1 + 1 + 1) s (openB key first pre) W)
    (fun s X Y h hc => h.calm hc (by rw [HSZ.out]; have := HI.out.lt; omega)) (fun s X Y h hs => by rw [hs]; exact h) HI.out
    (fun x => { tmps := #[Value.string key, Value.string first, Value.string s, undef, undef, undef,
          Value.pointer (some { block := w.heap.size, off := 0 }),
          Value.pointer (some { block := w.heap.size + 1, off := 0 }),
          Value.pointer (some { block := nc, off := 0 }), Value.int IntKind.i64 0,
          Value.pointer (some { block := nc + 1, off := 0 }),
          Value.pointer (some { block := nc + 1 + 1, off := 0 }), .string x, undef, undef, undef, undef,
          Value.tuple #[Value.pointer (some { block := w.heap.size + 1 + 1, off := 0 }), Value.int IntKind.i64 0],
          Value.string key, Value.string first,
          Value.tuple #[Value.pointer (some { block := w.heap.size + 1 + 1, off := 0 }), Value.int IntKind.i64 0],
          Value.pointer (some { block := w.heap.size + 1 + 1, off := 0 }), Value.int IntKind.i64 0, Value.bool false,
          Value.int IntKind.i64 0, Value.bool false, Value.bool false, Value.string s, Value.bool false,
          Value.bool false, Value.string s, Value.int IntKind.i64 s.size, Value.int IntKind.i64 0, Value.bool false,
          Value.bool false, Value.string first, Value.string s,
          Value.func (Fn.func 55) #[] #[Value.pointer (some { block := nc + 1 + 1 + 1, off := 0 })], .string x,
          undef, undef, undef, undef, undef, undef, undef, undef, undef, undef, undef, undef, undef, undef, undef, undef, undef, undef, undef, undef, undef, undef], defers := [] }) ?assign ?body ?done
  case hSt => rintro X Y rfl; exact ⟨Nat.le_refl _, fun k o _ e _ => e⟩
  case hKb =>
    intro X Y hX h
    have h1 := HSZ.out
    have h3 := HI.out.lt
    refine ⟨h.below (by omega) (by omega), ?_⟩
    have hlt : nc + 1 + 1 + 1 < X.heap.size := by omega
    have e : X.heap[nc + 1 + 1 + 1]? = some X.heap[nc + 1 + 1 + 1] := Array.getElem?_eq_getElem hlt
    rw [e]
    exact h.same _ _ e (.inr (by omega))
  case assign =>
    intro L x W K hK
    gi_wp2
    exact hK
  case body =>
    rintro L pre x W hI2 ⟨suf, hsuf⟩
    have hx : x.size = 16 := blocksOf_size s x (by rw [hsuf]; simp)
    have hpre : ∀ b ∈ pre, b.size = 16 := fun b hb => blocksOf_size s b (by rw [hsuf]; simp [hb])
    have hlen := congrArg List.length hsuf
    rw [blocksOf_length, List.length_append, List.length_cons] at hlen
    obtain ⟨st, hst⟩ : ∃ st, st = openB key first pre := ⟨_, rfl⟩
    have hst1 : st.1.length = 16 * pre.length := by rw [hst]; exact openB_length key first HF.out pre hpre
    have hst2 : st.2.size = 16 := by rw [hst]; exact openB_last key first HF.out pre hpre
    have hsnoc : openB key first (pre ++ [x]) = openGo key st x := by rw [openB_snoc, hst]
    rw [← hst] at hI2
    have HI2 := Aside0.mk hI2
    have HX := Aside0.mk hx
    have HST := Aside0.mk (And.intro hst1 hst2)
    have HSN := Aside0.mk hsnoc
    have HLEN : Aside0 (16 * pre.length + 16 ≤ 140737488355328) := ⟨by have := HS.out; omega⟩
    have c1 := hI2.c.cell 0 _ rfl
    have c2 : W.cell? ⟨nc + 1 + 1, 0, none⟩ = some (.string st.2) := hI2.last.cell 0 _ rfl
    have HIT := Aside0.mk hI2.it.heap
    have HO := Aside0.mk (Stp.refl w2.heap.size w.heap.size W)
    clear hI2 hst hst1 hst2 hsnoc hx hlen hsuf hpre
    gi_wp2_with (first
      | (refine ⟨trivial, ?_⟩; gi_at_call 15; refine (callsIn_round (Decrypt_w key x HK.out HX.out _ _ HI2.out.cip)).mono ?_; rintro e w3 ⟨rfl, hb⟩; have n1 := Aside0.mk (HI2.out.go hb); have n2 := Aside0.mk (HO.out.go hb HI2.out.bel.size); clear HI2 HO hb c1 c2; have HI2 := n1; have HO := n2; clear n1 n2; have c2 : w3.cell? ⟨nc + 1 + 1, 0, none⟩ = some (.string st.2) := HI2.out.last.cell 0 _ rfl)
      | (refine ⟨trivial, ?_⟩; gi_at_call 43; refine (callsIn_round (xor_any (decW key x) st.2 (decW_size _ _) HST.out.2 _)).mono ?_; rintro e w4 ⟨rfl, hb⟩; have n1 := Aside0.mk (HI2.out.go hb); have n2 := Aside0.mk (HO.out.go hb HI2.out.bel.size); clear HI2 HO hb c2; have HI2 := n1; have HO := n2; clear n1 n2)
      | (refine ⟨trivial, ?_⟩; gi_at_call 44; refine (callsIn_round (writeString w.heap.size (nc + 1) st.1 (xorW (decW key x) st.2) _ HI2.out.out (by rw [HST.out.1, xorW_size _ _ (decW_size _ _) HST.out.2]; have := HLEN.out; omega) HI2.out.bel.size)).mono ?_; rintro e w5 ⟨rfl, h2, hb, ho⟩; have n1 := Aside0.mk (HI2.out.put h2 hb ho); have n2 := Aside0.mk (HO.out.put hb ho (bld_block HI2.out.out)); clear HI2 HO hb h2 ho; have HI2 := n1; have HO := n2; clear n1 n2; have c2 : w5.cell? ⟨nc + 1 + 1, 0, none⟩ = some (.string st.2) := HI2.out.last.cell 0 _ rfl; have f2 : w5.frozen? ⟨nc + 1 + 1, 0, none⟩ = false := HI2.out.last.frozen 0))
    have hf := Aside0.mk (open_step (x := x) HI2.out HO.out HIT.out)
    exact ⟨hf.out.1, hf.out.2.1, by show OpenI _ _ _ _ _ _ (openB key first (pre ++ [x])) _; rw [HSN.out]; exact hf.out.2.2⟩
  case done =>
    rintro D xs W hD rfl hI2 hK
    have HI2 := Aside0.mk hI2
    have HKD := Aside0.mk hK
    have HDD := Aside0.mk hD
    have HOL : Aside0 ((openB key first (blocksOf s)).1.length = 16 * (s.size / 16)) := ⟨by rw [openB_length key first HF.out _ (fun b hb => blocksOf_size s b hb), blocksOf_length]⟩
    clear hI2 hK hD
    obtain ⟨o, ho⟩ : ∃ o, o = openB key first (blocksOf s) := ⟨_, rfl⟩
    rw [← ho] at HI2 HOL
    have HOL : Aside0 (8 ≤ (bs o.1).size ∧ (bs o.1).size ≤ 140737488351232) := ⟨by rw [bs_size, HOL.out]; have := HS.out; omega, by rw [bs_size, HOL.out]; have := HS.out; omega⟩
    cases hu : (unframeR (bs o.1)).2
    · have HU := Aside0.mk hu
      have HRR : Aside0 (openR key first s = (⟨#[]⟩, 4)) := ⟨by unfold openR; rw [← ho, hu]; rfl⟩
      clear hu ho
      gi_wp2_with (first
        | (refine ⟨trivial, ?_⟩; gi_at_call 45; refine (callsIn_wide.2 (stringB HI2.out.out HI2.out.bel.size)).mono ?_; rintro e w6 ⟨rfl, h2, hb, ho⟩; have hK6 := ho _ _ HKD.out (by intro e; have := HSZ.out; have := HDD.out; have := HI2.out.lt; cases e; omega) (fun _ _ e => by cases e); have n1 := Aside0.mk (HI2.out.put h2 hb ho); clear HI2 HKD h2 hb ho; have HI2 := n1; have HKD := Aside0.mk hK6; clear n1 hK6)
        | (refine ⟨trivial, ?_⟩; gi_at_call 48; refine (callsIn_wide.2 (unframe_any _ _ HOL.out.1 HOL.out.2)).mono ?_; rintro e w7 ⟨rfl, hb⟩; have hK7 := (hb.block D (Array.getElem?_eq_some_iff.1 HKD.out).1).trans HKD.out; have n1 := Aside0.mk (HI2.out.go hb); clear HI2 HKD hb; have HI2 := n1; have HKD := Aside0.mk hK7; clear n1 hK7; have c1 := HI2.out.r1.cell 0 _ rfl; have c2 := HI2.out.r2.cell 0 _ rfl; have f1 := HI2.out.r1.frozen 0; have f2 := HI2.out.r2.frozen 0; rw [HU.out]))
      obtain ⟨w8, hw8⟩ : ∃ w8, w8 = (w7.setCell ⟨w.heap.size, 0, none⟩ (.string (⟨#[]⟩ : ByteArray))).setCell ⟨w.heap.size + 1, 0, none⟩ (.int .i64 4) := ⟨_, rfl⟩
      rw [← hw8]
      have hb8 : Below w.heap.size w w8 := by rw [hw8]; exact (HI2.out.bel.setCell (by dsimp; omega) _).setCell (by dsimp; omega) _
      have a1 : At w8 w.heap.size 9 [.string (⟨#[]⟩ : ByteArray)] := by rw [hw8]; exact (HI2.out.r1.set 0 _).other _ _ (by dsimp; omega)
      have a2 : At w8 (w.heap.size + 1) 23 [.int .i64 4] := by rw [hw8]; exact (HI2.out.r2.other _ _ (by dsimp; omega)).set 0 _
      have hD : w.heap.size + 1 < D := by have := HSZ.out; have := HDD.out; have := HI2.out.lt; omega
      have hK8 : w8.heap[D]? = some (.deferred (some [])) := by
        rw [hw8, Below.heap_setCell _ _ _ _ (by dsimp; omega), Below.heap_setCell _ _ _ _ (by dsimp; omega)]
        exact HKD.out
      refine ⟨by simp, .inl ⟨_, _, rfl, run_takeDeferred hK8, ?_⟩⟩
      have k1 : ∀ ob, At (w8.putObj D ob) w.heap.size 9 [.string (⟨#[]⟩ : ByteArray)]   := fun ob => ⟨(World.putObj_heap_other (by omega)).trans a1.heap⟩
      have k2 : ∀ ob, At (w8.putObj D ob) (w.heap.size + 1) 23 [.int .i64 4]   := fun ob => ⟨(World.putObj_heap_other (by omega)).trans a2.heap⟩
      refine ⟨_, res_se rfl _ _ _ _ _ _ rfl rfl ((k1 _).cell 0 _ rfl) ((k2 _).cell 0 _ rfl), ?_, ?_⟩
      · rw [HRR.out]
      · exact hb8.trans (belowK_b (w := w) (Nat.le_refl _) w8 D _ _ (by omega) hK8 rfl rfl)
    · have HU := Aside0.mk hu
      have HRR : Aside0 (openR key first s = ((unframeR (bs o.1)).1, 0)) := ⟨by unfold openR; rw [← ho, hu]; rfl⟩
      clear hu ho
      gi_wp2_with (first
        | (refine ⟨trivial, ?_⟩; gi_at_call 45; refine (callsIn_wide.2 (stringB HI2.out.out HI2.out.bel.size)).mono ?_; rintro e w6 ⟨rfl, h2, hb, ho⟩; have hK6 := ho _ _ HKD.out (by intro e; have := HSZ.out; have := HDD.out; have := HI2.out.lt; cases e; omega) (fun _ _ e => by cases e); have n1 := Aside0.mk (HI2.out.put h2 hb ho); clear HI2 HKD h2 hb ho; have HI2 := n1; have HKD := Aside0.mk hK6; clear n1 hK6)
        | (refine ⟨trivial, ?_⟩; gi_at_call 48; refine (callsIn_wide.2 (unframe_any _ _ HOL.out.1 HOL.out.2)).mono ?_; rintro e w7 ⟨rfl, hb⟩; have hK7 := (hb.block D (Array.getElem?_eq_some_iff.1 HKD.out).1).trans HKD.out; have n1 := Aside0.mk (HI2.out.go hb); clear HI2 HKD hb; have HI2 := n1; have HKD := Aside0.mk hK7; clear n1 hK7; have c1 := HI2.out.r1.cell 0 _ rfl; have c2 := HI2.out.r2.cell 0 _ rfl; have f1 := HI2.out.r1.frozen 0; have f2 := HI2.out.r2.frozen 0; rw [HU.out]))
      obtain ⟨w8, hw8⟩ : ∃ w8, w8 = (w7.setCell ⟨w.heap.size, 0, none⟩ (.string (unframeR (bs o.1)).1)).setCell ⟨w.heap.size + 1, 0, none⟩ (.int .i64 0) := ⟨_, rfl⟩
      rw [← hw8]
      have hb8 : Below w.heap.size w w8 := by rw [hw8]; exact (HI2.out.bel.setCell (by dsimp; omega) _).setCell (by dsimp; omega) _
      have a1 : At w8 w.heap.size 9 [.string (unframeR (bs o.1)).1] := by rw [hw8]; exact (HI2.out.r1.set 0 _).other _ _ (by dsimp; omega)
      have a2 : At w8 (w.heap.size + 1) 23 [.int .i64 0] := by rw [hw8]; exact (HI2.out.r2.other _ _ (by dsimp; omega)).set 0 _
      have hD : w.heap.size + 1 < D := by have := HSZ.out; have := HDD.out; have := HI2.out.lt; omega
      have hK8 : w8.heap[D]? = some (.deferred (some [])) := by
        rw [hw8, Below.heap_setCell _ _ _ _ (by dsimp; omega), Below.heap_setCell _ _ _ _ (by dsimp; omega)]
        exact HKD.out
      refine ⟨by simp, .inl ⟨_, _, rfl, run_takeDeferred hK8, ?_⟩⟩
      have k1 : ∀ ob, At (w8.putObj D ob) w.heap.size 9 [.string (unframeR (bs o.1)).1]   := fun ob => ⟨(World.putObj_heap_other (by omega)).trans a1.heap⟩
      have k2 : ∀ ob, At (w8.putObj D ob) (w.heap.size + 1) 23 [.int .i64 0]   := fun ob => ⟨(World.putObj_heap_other (by omega)).trans a2.heap⟩
      refine ⟨_, res_se rfl _ _ _ _ _ _ rfl rfl ((k1 _).cell 0 _ rfl) ((k2 _).cell 0 _ rfl), ?_, ?_⟩
      · rw [HRR.out]
      · exact hb8.trans (belowK_b (w := w) (Nat.le_refl _) w8 D _ _ (by omega) hK8 rfl rfl)
theorem open_arg (key first s : ByteArray) (w : World) (h : ¬ (key.size = 32 ∧ first.size = 16)) :
    Calls Try.prog 24 #[.string key, .string first, .string s] w fun e w' => e = .returned (.tuple #[.string (⟨#[]⟩ : ByteArray), .int .i64 1]) ∧ Below w.heap.size w w' := by
  have H := Aside0.mk h
  clear h
  go_enter Try.func24, Try.ntmps24
  go_wp2_with (go_at_call 41; refine (begin_arg key first H.out _).mono ?_; rintro e wA ⟨rfl, rfl⟩)
  refine bodyPost_ret (res_se rfl _ _ _ _ _ _ rfl rfl ?_ ?_) rfl ⟨rfl, ?_⟩
  · exact (((At.new w _ _).alloc _).alloc _).cell 0 _ rfl
  · exact ((At.newAt (by simp)).alloc _).cell 0 _ rfl
  · exact (((Below.refl _ w).alloc (Nat.le_refl _) _).alloc (by simp) _).alloc (by simp; omega) _
set_option maxHeartbeats 1000000 in
theorem open_form (key first s : ByteArray) (w : World) (hk : key.size = 32) (hf : first.size = 16) (hs : s.size = 0 ∨ s.size % 16 ≠ 0) :
    Calls Try.prog 24 #[.string key, .string first, .string s] w fun e w' => e = .returned (.tuple #[.string (⟨#[]⟩ : ByteArray), .int .i64 4]) ∧ Below w.heap.size w w' := by
  have HK := Aside0.mk hk
  have HF := Aside0.mk hf
  clear hk hf
  by_cases h0 : s.size = 0
  · have hn : s.toList.isEmpty = true := by
      rw [Go.Lib.toList_data, List.isEmpty_iff]
      exact List.length_eq_zero_iff.1 (by rw [toList_length, h0])
    clear hs h0
    go_enter Try.func24, Try.ntmps24
    go_wp2_with (go_at_call 41; refine (begin_ok key first HK.out HF.out _).mono ?_; rintro e wA ⟨rfl, hc, hb⟩; have n1 := resultsAt w wA hb; have HC := Aside0.mk n1; have c1 := n1.1.cell 0 _ rfl; have c2 := n1.2.1.cell 0 _ rfl; have f1 := n1.1.frozen 0; have f2 := n1.2.1.frozen 0; have l2 := n1.2.2.2; have l1 : w.heap.size < wA.heap.size := (by omega); clear n1 hc hb)
    refine bodyPost_ret (res_se rfl _ _ _ _ _ _ rfl rfl ?_ ?_) rfl ⟨rfl, ?_⟩
    · exact ((((HC.out.1.set 0 _).other _ _ (by dsimp; omega)).alloc _).cell 0 _ rfl)
    · exact ((((HC.out.2.1.other _ _ (by dsimp; omega)).set 0 _).alloc _).cell 0 _ rfl)
    · exact ((HC.out.2.2.1.setCell (by dsimp; omega) _).setCell (by dsimp; omega) _).alloc (by simp; omega) _
  · have hn : s.toList.isEmpty = false := by
      rw [Go.Lib.toList_data, List.isEmpty_eq_false_iff]
      intro e
      exact h0 (by rw [← toList_length, e]; rfl)
    have hm : ¬ ((s.size : Int) % 16 = 0) := by omega
    have hm2 : ¬ ((s.size : Int).tmod 16 = 0) := by rw [Int.tmod_eq_emod_of_nonneg (by omega)]; exact hm
    clear hs h0
    go_enter Try.func24, Try.ntmps24
    go_wp2_with (go_at_call 41; refine (begin_ok key first HK.out HF.out _).mono ?_; rintro e wA ⟨rfl, hc, hb⟩; have n1 := resultsAt w wA hb; have HC := Aside0.mk n1; have c1 := n1.1.cell 0 _ rfl; have c2 := n1.2.1.cell 0 _ rfl; have f1 := n1.1.frozen 0; have f2 := n1.2.1.frozen 0; have l2 := n1.2.2.2; have l1 : w.heap.size < wA.heap.size := (by omega); clear n1 hc hb)
    refine bodyPost_ret (res_se rfl _ _ _ _ _ _ rfl rfl ?_ ?_) rfl ⟨rfl, ?_⟩
    · exact ((((HC.out.1.set 0 _).other _ _ (by dsimp; omega)).alloc _).cell 0 _ rfl)
    · exact ((((HC.out.2.1.other _ _ (by dsimp; omega)).set 0 _).alloc _).cell 0 _ rfl)
    · exact ((HC.out.2.2.1.setCell (by dsimp; omega) _).setCell (by dsimp; omega) _).alloc (by simp; omega) _
/-- What cbc.Open tells. -/
def cbc_Open.f (a0 a1 a2 : ByteArray) : Option (ByteArray × Int) :=
  if a0.size = 32 ∧ a1.size = 16 then (if a2.size = 0 ∨ a2.size % 16 ≠ 0 then some (⟨#[]⟩, 4) else (if a2.size ≤ 140737488351232 then some (openR a0 a1 a2) else none)) else some (⟨#[]⟩, 1)
theorem cbc_Open.calls (a0 a1 a2 : ByteArray) (r1 : ByteArray) (r2 : Int) (w : World) (h : cbc_Open.f a0 a1 a2 = some (r1, r2)) :
    Calls Try.prog 24 #[.string a0, .string a1, .string a2] w fun e w' => e = .returned (.tuple #[.string r1, .int .i64 r2]) ∧ Below w.heap.size w w' := by
  unfold cbc_Open.f at h
  split at h
  · rename_i hk
    split at h
    · rename_i hd
      simp only [Option.some.injEq, Prod.mk.injEq] at h
      obtain ⟨rfl, rfl⟩ := h
      exact open_form a0 a1 a2 w hk.1 hk.2 hd
    · rename_i hd
      split at h
      · rename_i hl
        have h2 := open_ok a0 a1 a2 w hk.1 hk.2 (fun e => hd (.inl e)) (by have : ¬ (a2.size % 16 ≠ 0) := fun e => hd (.inr e); omega) hl
        rw [Option.some.inj h] at h2
        exact h2
      · cases h
  · rename_i hk
    simp only [Option.some.injEq, Prod.mk.injEq] at h
    obtain ⟨rfl, rfl⟩ := h
    exact open_arg a0 a1 a2 w hk
end Go.Proofs.Ytfbcgpgpfpnpnaa.Given
