/- The contract of derive.Stretch. Conditions: passwords of at most 64 bytes, and so on: as it is called. -/
import Derived.Test.YtbafbpfpnfnikaaDerA
import Derived.Test.YtbafbpfpnfnikaaRnd
namespace Go.Proofs.Ytbafbpfpnfnikaa.Given
open Go.RowKit Go.Proofs.YtbafbpfpnfnikaaW.PrintWords Go.Proofs.YtbafbpfpnfnikaaW.PrintLast Go.Proofs.YtbafbpfpnfnikaaW.PrintMore
open Go.Proofs.Ytbafbpfpnfnikaa.Row Go.Proofs.Ytbafbpfpnfnikaa.Row.At Go.Proofs.Ytbafbpfpnfnikaa.Range
set_option maxRecDepth 100000
set_option linter.unusedVariables false
set_option linter.unusedSimpArgs false
attribute [local go_sem] Oper.semAt_some
/-- a block's number in four bytes -/
def numL4 (b : Nat) : List UInt8 := [UInt8.ofNat (b / 16777216), UInt8.ofNat (b / 65536), UInt8.ofNat (b / 256), UInt8.ofNat b]
def numB (b : Nat) : ByteArray := ⟨(numL4 b).toArray⟩
theorem numB_size (b : Nat) : (numB b).size = 4 := rfl
/-- bytes put together by exclusive or -/
def xorA (a : List UInt8) (u : ByteArray) : List UInt8 := List.zipWith (· ^^^ ·) a u.data.toList
def accL (l : List ByteArray) : List UInt8 := l.foldl xorA (List.replicate 32 0)
theorem accL_length (l : List ByteArray) (h : ∀ u ∈ l, u.size = 32) : (accL l).length = 32 := by
  have key : ∀ (l : List ByteArray) (a : List UInt8), (∀ u ∈ l, u.size = 32) → a.length = 32 → (l.foldl xorA a).length = 32 := by
    intro l
    induction l with
    | nil => intro a _ ha; exact ha
    | cons u l ih =>
      intro a hl ha
      rw [List.foldl_cons]
      refine ih _ (fun v hv => hl v (List.mem_cons_of_mem _ hv)) ?_
      have hu : u.data.toList.length = 32 := by rw [Array.length_toList]; exact hl u (List.mem_cons_self ..)
      rw [xorA, List.length_zipWith, ha, hu]; rfl
  exact key l _ h (by simp)
theorem accL_snoc (l : List ByteArray) (u : ByteArray) : accL (l ++ [u]) = xorA (accL l) u := by simp [accL]
def stretchW (pw salt : ByteArray) (rounds block : Nat) : ByteArray := ⟨(accL (textsL pw (salt ++ numB block) rounds)).toArray⟩
theorem num_conv (block : Nat) (hb : block ≤ 2147483647) (w : World) : (convert 37 9 (.slice (some ⟨w.heap.size, 0, none⟩) 4 4)).run Try.prog (w.alloc (.cells #[.int .u8 (block / 16777216 : Int), .int .u8 (block / 65536 % 256 : Int), .int .u8 (block / 256 % 256 : Int), .int .u8 (block % 256 : Int)] 5 (0, 0))) = .ok (.string (numB block)) (w.alloc (.cells #[.int .u8 (block / 16777216 : Int), .int .u8 (block / 65536 % 256 : Int), .int .u8 (block / 256 % 256 : Int), .int .u8 (block % 256 : Int)] 5 (0, 0))) := by
  have e0 : ((UInt8.ofNat (block / 16777216)).toNat : Int) = (block / 16777216 : Int) := by rw [UInt8.toNat_ofNat']; omega
  have e1 : ((UInt8.ofNat (block / 65536)).toNat : Int) = (block / 65536 % 256 : Int) := by rw [UInt8.toNat_ofNat']; omega
  have e2 : ((UInt8.ofNat (block / 256)).toNat : Int) = (block / 256 % 256 : Int) := by rw [UInt8.toNat_ofNat']; omega
  have e3 : ((UInt8.ofNat block).toNat : Int) = (block % 256 : Int) := by rw [UInt8.toNat_ofNat']; omega
  rw [← e0, ← e1, ← e2, ← e3]
  exact run_convert_bytes_back (P := Try.prog) _ 37 9 5 ⟨w.heap.size, 0, none⟩ 4 (numL4 block) Try.underlying37 Try.underlying5 Try.underlying9 (fun j hj => by
    have hj4 : j < 4 := hj
    rw [Addr.add_mid, Nat.zero_add, cell_of_row _ w.heap.size j _ _ _ (heap_alloc_new w _)]
    rcases j with _ | _ | _ | _ | j
    · rfl
    · rfl
    · rfl
    · rfl
    · omega)
theorem dNe {w : World} {g h : Nat} {t u : TypeId} {cs ds : List Value} (hg : At w g t cs) (hh : At w h u ds) (hn : (t == u) = false) : g ≠ h := by
  intro e
  subst e
  have := hg.heap.symm.trans hh.heap
  injection this with this
  injection this with _ ht
  rw [ht] at hn
  simp at hn
/-- Between two rounds: the box of the password, and the sum's box (o). -/
structure StrI (B o bp : Nat) (pw : ByteArray) (w : World) (pre : List ByteArray) (W : World) : Prop where
  p : At W bp 9 [.string pw]
  out : (pre = [] ∧ At W o 37 [.slice none 0 0]) ∨ ∃ g, B ≤ g ∧ At W o 37 [.slice (some ⟨g, 0, none⟩) 32 32] ∧ At W g 5 (b8s (accL pre))
  bel : Below B w W
theorem StrI.go {B o bp : Nat} {pw : ByteArray} {w W W' : World} {pre : List ByteArray} (h : StrI B o bp pw w pre W) (hB : B ≤ w.heap.size) (hb : Below W.heap.size W W') : StrI B o bp pw w pre W' := by
  refine ⟨at_go1 h.p hb, ?_, h.bel.trans (hb.mono (Nat.le_trans hB h.bel.size))⟩
  rcases h.out with ⟨h1, h2⟩ | ⟨g, h1, h2, h3⟩
  · exact .inl ⟨h1, at_go1 h2 hb⟩
  · exact .inr ⟨g, h1, at_go1 h2 hb, at_go1 h3 hb⟩
theorem at_calm1 {B : Nat} {W W' : World} {g : Nat} {t : TypeId} {cs : List Value} (h : At W g t cs) (hc : Range.Calm B W W') : At W' g t cs := ⟨hc.cells h.heap⟩
theorem StrI.calm {B o bp : Nat} {pw : ByteArray} {w W W' : World} {pre : List ByteArray} (h : StrI B o bp pw w pre W) (hB : B ≤ w.heap.size) {D : Nat} (hD : B ≤ D) (hb : Range.Calm D W W') : StrI B o bp pw w pre W' := by
  refine ⟨at_calm1 h.p hb, ?_, h.bel.trans (hb.below hD (Nat.le_trans hB h.bel.size))⟩
  rcases h.out with ⟨h1, h2⟩ | ⟨g, h1, h2, h3⟩
  · exact .inl ⟨h1, at_calm1 h2 hb⟩
  · exact .inr ⟨g, h1, at_calm1 h2 hb, at_calm1 h3 hb⟩
theorem texts_seq (pw first : ByteArray) (m : Nat) (w W : World) (n B1 B2 B3 B : Nat) (hp : pw.size ≤ 1000) (hf : first.size ≤ 1000) (hm : m ≤ 1000) (h1 : At W B1 9 [.string first]) (h2 : At W B2 3 [.int .i64 m]) (h3 : At W B3 9 [.string pw]) :
    SeqBy Fence.wide n Try.prog 54 #[.pointer (some ⟨B1, 0, none⟩), .pointer (some ⟨B2, 0, none⟩), .pointer (some ⟨B3, 0, none⟩)] (fun x : ByteArray => #[.string x]) (fun A B => Below A.heap.size A B) (KpD B B3)
      (fun xs => xs = textsL pw first m) (fun pre x => ∃ suf, textsL pw first m = pre ++ x :: suf) W := by
  intro L J W1 hcalm hJ hY h0
  exact (texts_in n L B1 B2 B3 B pw first m J hJ hY W1 hp hf hm (at_calm1 h1 hcalm) (at_calm1 h2 hcalm) (at_calm1 h3 hcalm) h0).mono fun e W' ⟨he, hj⟩ => ⟨he, _, rfl, hj⟩
theorem res_tt {fn : Func} {p p' : Tmp} (h : fn.results = #[.tmp p, .tmp p']) (tmps : Array Value) (w : World) (v v' : Value) (hp : tmps.getD p undef = v) (hp' : tmps.getD p' undef = v') :
    (results fn tmps).run Try.prog w = .ok (.tuple #[v, v']) w := by
  have h1 : tmps[p]?.getD undef = v := by simpa using hp
  have h2 : tmps[p']?.getD undef = v' := by simpa using hp'
  simp [results, h, h1, h2, go_sem]
/-- What a round's steps keep. -/
def Stq (D B bp : Nat) (W W' : World) : Prop := Others D W W' ∧ Below B W W' ∧ W'.heap[bp]? = W.heap[bp]?
theorem Stq.refl (D B bp : Nat) (W : World) : Stq D B bp W W := ⟨⟨Nat.le_refl _, fun k o _ e _ => e⟩, Below.refl _ _, rfl⟩
theorem Stq.go {D B bp : Nat} {W X Y : World} (h : Stq D B bp W X) (hb : Below X.heap.size X Y) (hB : B ≤ W.heap.size) (hp : bp < W.heap.size) : Stq D B bp W Y := by
  have hs := h.1.1
  refine ⟨⟨Nat.le_trans hs hb.size, fun k o hk e ho => ?_⟩, h.2.1.trans (hb.mono (Nat.le_trans hB hs)), (hb.block bp (by omega)).trans h.2.2⟩
  have h1 := h.1.2 k o hk e ho
  exact (hb.block k (Array.getElem?_eq_some_iff.1 h1).1).trans h1
theorem Stq.cell {D B bp : Nat} {W X : World} (h : Stq D B bp W X) {g : Nat} {t : TypeId} {cs : List Value} (ha : At X g t cs) (hg : B ≤ g) (hp : g ≠ bp) (j : Nat) (v : Value) : Stq D B bp W (X.setCell ⟨g, j, none⟩ v) := by
  refine ⟨⟨by have := h.1.1; simpa [World.setCell] using this, fun k o hk e ho => ?_⟩, h.2.1.setCell hg _, (Below.heap_setCell _ _ _ _ (by dsimp; omega)).trans h.2.2⟩
  have h1 := h.1.2 k o hk e ho
  rw [Below.heap_setCell _ _ _ _ (fun e2 => ?_)]
  · exact h1
  · have e3 : k = g := e2
    rw [e3, ha.heap] at h1
    cases h1
    cases ho
/-- In the midst of a round's sum -/
def xorN (a : List UInt8) (u : ByteArray) (i : Nat) : List UInt8 := (xorA a u).take i ++ a.drop i
theorem xorN_length (a : List UInt8) (u : ByteArray) (i : Nat) (ha : a.length = 32) (hu : u.size = 32) : (xorN a u i).length = 32 := by
  have h2 : u.data.toList.length = 32 := hu
  simp only [xorN, xorA, List.length_append, List.length_take, List.length_zipWith, List.length_drop]
  omega
theorem xorN_zero (a : List UInt8) (u : ByteArray) : xorN a u 0 = a := by simp [xorN]
theorem xorN_all (a : List UInt8) (u : ByteArray) (ha : a.length = 32) (hu : u.size = 32) : xorN a u 32 = xorA a u := by
  have h2 : u.data.toList.length = 32 := hu
  rw [xorN, List.take_of_length_le (by rw [xorA, List.length_zipWith]; omega), List.drop_of_length_le (by omega), List.append_nil]
theorem xorN_set (a : List UInt8) (u : ByteArray) (i : Nat) (ha : a.length = 32) (hu : u.size = 32) (hi : i < 32) : (xorN a u i).set i (gb (xorN a u i) i ^^^ gb u.data.toList i) = xorN a u (i + 1) := by
  have h2 : u.data.toList.length = 32 := hu
  have hl : (xorA a u).length = 32 := by rw [xorA, List.length_zipWith]; omega
  have ht : ((xorA a u).take i).length = i := by rw [List.length_take]; omega
  unfold xorN
  have hg : gb ((xorA a u).take i ++ a.drop i) i = a[i] := by
    rw [gb, List.getD_eq_getElem?_getD, List.getElem?_append_right (by omega), ht, Nat.sub_self, List.getElem?_drop, Nat.add_zero, List.getElem?_eq_getElem (by omega)]
    rfl
  have hg2 : gb u.data.toList i = u.data.toList[i] := by rw [gb, List.getD_eq_getElem?_getD, List.getElem?_eq_getElem (by omega)]; rfl
  rw [hg, hg2, List.set_append_right _ _ (by omega), ht, Nat.sub_self, ← List.take_append_getElem (by omega : i < (xorA a u).length), List.append_assoc, ← List.getElem_cons_drop (by omega : i < a.length), List.set_cons_zero]
  simp [xorA]
theorem index_text (b : ByteArray) (i : Nat) (h : i < b.size) (w : World) : (Instr.index 9 (.string b) (.int .i64 (i : Int))).run Try.prog w = .ok (.int .u8 (gb b.data.toList i).toNat) w := by
  have h1 : (0 : Int) ≤ (i : Int) ∧ (i : Int) < (b.size : Int) := by omega
  simp [Instr.index, go_sem, h1, gb, List.getD_eq_getElem?_getD]
  have h2 : i < b.data.size := h
  have h3 : b.data[i]? = some b.data[i] := Array.getElem?_eq_getElem h2
  rw [getElem?_pos b i h, h3]
  rfl
theorem made32 (W : World) : At (W.alloc (.cells (madeCells #[.int .u8 0] 32) 5 (0, 0))) W.heap.size 5 (b8s (List.replicate 32 0)) := by
  have e : madeCells #[.int .u8 0] 32 = (b8s (List.replicate 32 0)).toArray := by
    have := toList_madeCells_one (.int .u8 0) 32
    rw [← Array.toArray_toList (xs := madeCells #[.int .u8 0] 32), this]
    rfl
  rw [e]
  exact At.new W _ _
set_option maxHeartbeats 1000000 in
theorem stretch_ok (pw salt : ByteArray) (rounds block : Nat) (w : World) (hp : pw.size ≤ 64) (hs : salt.size = 16) (hr1 : 1 ≤ rounds) (hr2 : rounds ≤ 64) (hb1 : 1 ≤ block) (hb2 : block ≤ 2147483647) :
    Calls Try.prog 28 #[.string pw, .string salt, .int .i64 rounds, .int .i64 block] w fun e w' => e = .returned (.tuple #[.string (stretchW pw salt rounds block), .int .i64 0]) ∧ Below w.heap.size w w' := by
  obtain ⟨res, hres⟩ : ∃ r, r = stretchW pw salt rounds block := ⟨_, rfl⟩
  rw [← hres]
  have HRES0 : Aside0 (res = ⟨(accL (textsL pw (salt ++ numB block) rounds)).toArray⟩) := ⟨hres⟩
  clear hres
  refine callsIn_wide (n := 6) |>.1 ?_
  refine callsIn_of_wp_marks Try.func28 rfl trivial ?_ rfl
  simp only [Try.ntmps28, List.size_toArray, List.length_cons, List.length_nil, Nat.reduceAdd, Nat.reduceSub, Array.replicate_succ, Array.replicate_zero, List.push_toArray, List.append_toArray, List.nil_append, List.cons_append]
  have HP := Aside0.mk hp
  have HS := Aside0.mk hs
  have HR := Aside0.mk (And.intro hr1 hr2)
  have HBK := Aside0.mk (And.intro hb1 hb2)
  have g1 : ¬ ((64 : Int) < (pw.size : Int)) := by omega
  have g2 : ((salt.size : Int) != 16) = false := by rw [hs]; rfl
  have g2b : (salt.size : Int) = 16 := by omega
  have g3 : ¬ ((rounds : Int) < 1) := by omega
  have g4 : ¬ ((64 : Int) < (rounds : Int)) := by omega
  have g5 : ¬ ((block : Int) < 1) := by omega
  have g6 : ¬ ((2147483647 : Int) < (block : Int)) := by omega
  have HCV := Aside0.mk (num_conv block hb2)
  have cv := num_conv block hb2 w
  have l0 : salt.size + (numB block).size ≤ 9223372036854775807 := by rw [hs, numB_size]; decide
  clear hp hs hr1 hr2 hb1 hb2
  gi_wp2_with (refine ⟨trivial, ?_⟩; gi_at_call 39; refine (callsIn_wide.2 (texts_any _ _ _ _)).mono ?_; rintro e wB ⟨rfl, rfl⟩)
  obtain ⟨w2, hw2⟩ : ∃ w2, w2 = (((((w.alloc (.cells #[.int .u8 (block / 16777216 : Int), .int .u8 (block / 65536 % 256 : Int), .int .u8 (block / 256 % 256 : Int), .int .u8 (block % 256 : Int)] 5 (0, 0))).alloc (.cells #[.slice none 0 0] 37 (0, 0))).alloc (.cells #[.string pw] 9 (0, 0))).alloc (.cells #[.string (salt ++ numB block)] 9 (0, 0))).alloc (.cells #[.int .i64 rounds] 3 (0, 0))) := ⟨_, rfl⟩
  rw [← hw2]
  have ho : At w2 (w.heap.size + 1) 37 [.slice none 0 0] := by rw [hw2]; exact (((At.newAt (by simp)).alloc _).alloc _).alloc _
  have hp3 : At w2 (w.heap.size + 1 + 1) 9 [.string pw] := by rw [hw2]; exact ((At.newAt (by simp)).alloc _).alloc _
  have hf1 : At w2 (w.heap.size + 1 + 1 + 1) 9 [.string (salt ++ numB block)] := by rw [hw2]; exact (At.newAt (by simp)).alloc _
  have hn2 : At w2 (w.heap.size + 1 + 1 + 1 + 1) 3 [.int .i64 rounds] := by rw [hw2]; exact At.newAt (by simp)
  have hb2 : Below w.heap.size w w2 := by rw [hw2]; exact (((((Below.refl _ w).alloc (Nat.le_refl _) _).alloc (by simp) _).alloc (by simp; omega) _).alloc (by simp; omega) _).alloc (by simp; omega) _
  have hs2 : w2.heap.size = w.heap.size + 5 := by rw [hw2]; simp
  obtain ⟨first, hfirst⟩ : ∃ f, f = salt ++ numB block := ⟨_, rfl⟩
  have hfs : first.size = 20 := by rw [hfirst, ByteArray.size_append, HS.out, numB_size]
  have HRES : Aside0 (res = ⟨(accL (textsL pw first rounds)).toArray⟩) := ⟨by rw [HRES0.out, hfirst]⟩
  rw [← hfirst] at hf1 ⊢
  have HSEQ := Aside0.mk (texts_seq pw first rounds w2 w2 (6 - 1) (w.heap.size + 1 + 1 + 1) (w.heap.size + 1 + 1 + 1 + 1) (w.heap.size + 1 + 1) w.heap.size (by have := HP.out; omega) (by omega) (by have := HR.out; omega) hf1 hn2 hp3)
  have HI0 : Aside0 (StrI w.heap.size (w.heap.size + 1) (w.heap.size + 1 + 1) pw w [] w2) := ⟨⟨hp3, .inl ⟨rfl, ho⟩, hb2⟩⟩
  have HSZ := Aside0.mk hs2
  clear hw2 ho hp3 hf1 hn2 hb2 hs2 hfirst hfs HRES0 HCV cv
  refine wp_rangeBy rfl (by omega) (gf := 54) (lb := #[.pointer (some ⟨w.heap.size + 1 + 1 + 1, 0, none⟩), .pointer (some ⟨w.heap.size + 1 + 1 + 1 + 1, 0, none⟩), .pointer (some ⟨w.heap.size + 1 + 1, 0, none⟩)]) rfl trivial (enters_of Try.func54 (by kernel_rfl) rfl)
    HSEQ.out ?hSt (fun h k => ⟨h.1.trans k.1, k.2.trans h.2⟩) ?hKb (fun _ => rfl) (fun pre W => StrI w.heap.size (w.heap.size + 1) (w.heap.size + 1 + 1) pw w pre W)
    (fun s X Y h hc => h.calm (Nat.le_refl _) (by rw [HSZ.out]; omega) hc) (fun s X Y h hs => h.go (Nat.le_refl _) hs) HI0.out
    (fun x => { tmps := #[Value.string pw, Value.string salt, Value.int IntKind.i64 ↑rounds, Value.int IntKind.i64 ↑block, undef, undef,
          undef, undef, Value.string { data := #[] }, Value.int IntKind.i64 0, Value.string (numB block),
          Value.pointer (some { block := w.heap.size + 1, off := 0 }), .string x, undef, Value.string pw,
          Value.int IntKind.i64 ↑pw.size, Value.bool false, Value.bool false, Value.string salt,
          Value.int IntKind.i64 16, Value.bool false, Value.bool false, Value.bool false, Value.int IntKind.i64 ↑rounds,
          Value.bool false, Value.bool false, Value.bool false, Value.int IntKind.i64 ↑rounds, Value.bool false,
          Value.bool false, Value.bool false, Value.int IntKind.i64 ↑block, Value.bool false, Value.bool false,
          Value.bool false, Value.int IntKind.i64 ↑block, Value.bool false, Value.bool false,
          Value.int IntKind.i64 ↑block, Value.int IntKind.i64 (↑block / 16777216),
          Value.int IntKind.u8 (↑block / 16777216), Value.int IntKind.i64 ↑block,
          Value.int IntKind.i64 (↑block / 65536), Value.int IntKind.u8 (↑block / 65536 % 256),
          Value.int IntKind.i64 ↑block, Value.int IntKind.i64 (↑block / 256), Value.int IntKind.u8 (↑block / 256 % 256),
          Value.int IntKind.i64 ↑block, Value.int IntKind.u8 (↑block % 256),
          Value.slice (some { block := w.heap.size, off := 0 }) 4 4, Value.string (numB block), Value.string pw,
          Value.string salt, Value.string (numB block), Value.string first,
          Value.int IntKind.i64 ↑rounds,
          Value.func (Fn.func 54) #[]
            #[Value.pointer (some { block := w.heap.size + 1 + 1 + 1, off := 0 }),
              Value.pointer (some { block := w.heap.size + 1 + 1 + 1 + 1, off := 0 }),
              Value.pointer (some { block := w.heap.size + 1 + 1, off := 0 })],
          .string x, undef, undef, undef, undef, undef, undef, undef, undef, undef, undef, undef, undef, undef, undef,
          undef, undef, undef, undef, undef, undef, undef, undef], defers := [] }) ?assign ?body ?done
  case hSt =>
    rintro X Y h
    exact ⟨h.size, fun k o _ e _ => (h.block k (Array.getElem?_eq_some_iff.1 e).1).trans e⟩
  case hKb =>
    intro X Y hX h
    have h1 := HSZ.out
    refine ⟨h.below (by omega) (by omega), ?_⟩
    have hlt : w.heap.size + 1 + 1 < X.heap.size := by omega
    have e : X.heap[w.heap.size + 1 + 1]? = some X.heap[w.heap.size + 1 + 1] := Array.getElem?_eq_getElem hlt
    rw [e]
    exact h.same _ _ e (.inr (by omega))
  case assign =>
    intro L x W K hK
    gi_wp2
    exact hK
  case body =>
    rintro L pre x W hI2 ⟨suf, hsuf⟩
    have hx : x.size = 32 := textsL_size pw first rounds x (by rw [hsuf]; simp)
    have hall : ∀ u ∈ pre, u.size = 32 := fun u hu => textsL_size pw first rounds u (by rw [hsuf]; simp [hu])
    have hacc : (accL pre).length = 32 := accL_length pre hall
    have HX := Aside0.mk hx
    have HACC := Aside0.mk hacc
    have HB := Aside0.mk hI2.bel
    have HQ := Aside0.mk (Stq.refl w2.heap.size w.heap.size (w.heap.size + 1 + 1) W)
    have HPA := Aside0.mk hI2.p
    have HLT : Aside0 (w.heap.size + 1 + 1 < W.heap.size) := ⟨hI2.p.lt⟩
    have hmix : Try.prog.follows .mixedOrders = true := by kernel_rfl
    rcases hI2.out with ⟨hpre, ho⟩ | ⟨g, hg, ho, ha⟩
    · have HPRE := Aside0.mk (show accL pre = List.replicate 32 0 by rw [hpre]; rfl)
      have HO := Aside0.mk ho
      have c1 : W.cell? ⟨w.heap.size + 1, 0, none⟩ = some (.slice none 0 0) := ho.cell 0 _ rfl
      have c2 : ∀ ob : Obj, (W.alloc ob).cell? ⟨w.heap.size + 1, 0, none⟩ = some (.slice none 0 0) := fun ob => (ho.alloc ob).cell 0 _ rfl
      have f2 : ∀ ob : Obj, (W.alloc ob).frozen? ⟨w.heap.size + 1, 0, none⟩ = false := fun ob => (ho.alloc ob).frozen 0
      have l1 : w.heap.size + 1 < W.heap.size := ho.lt
      have he : ∀ w : World, (binOp .eql 37 (.slice none 0 0) (.slice none 0 0)).run Try.prog w = .ok (.bool true) w := fun _ => rfl
      have h32 : ∀ W : World, (Instr.makeSlice 37 (.int .i64 32) (.int .i64 32)).run Try.prog W = .ok (.slice (some ⟨W.heap.size, 0, none⟩) 32 32) (W.alloc (.cells (madeCells #[.int .u8 0] 32) 5)) := print_make (P := Try.prog) 37 5 .u8 1 Try.underlying37 (by kernel_rfl) (by decide) 32 (by omega)
      have HG0 := Aside0.mk made32
      obtain ⟨C32, hC32⟩ : ∃ C, C = Obj.cells (madeCells #[.int .u8 0] 32) 5 (0, 0) := ⟨_, rfl⟩
      rw [← hC32] at h32 HG0
      clear ho hpre hI2 hsuf hall hacc hC32
      gi_wp2
      obtain ⟨g, hg⟩ : ∃ g, g = W.heap.size := ⟨_, rfl⟩
      rw [← hg]
      obtain ⟨w5, hw5⟩ : ∃ w5, w5 = (W.setCell ⟨w.heap.size + 1, 0, none⟩ (.slice (some ⟨g, 0, none⟩) 32 32)).alloc C32 := ⟨_, rfl⟩
      have hsc : (W.setCell ⟨w.heap.size + 1, 0, none⟩ (.slice (some ⟨g, 0, none⟩) 32 32)).heap.size = W.heap.size := by simp [World.setCell]
      have ho5 : At w5 (w.heap.size + 1) 37 [.slice (some ⟨g, 0, none⟩) 32 32] := by rw [hw5]; exact (HO.out.set 0 _).alloc C32
      have hg5 : At w5 g 5 (b8s (xorN (accL pre) x 0)) := by
        have := HG0.out (W.setCell ⟨w.heap.size + 1, 0, none⟩ (.slice (some ⟨g, 0, none⟩) 32 32))
        rw [hsc, ← hg] at this
        rw [hw5, xorN_zero, HPRE.out]; exact this
      have hp5 : At w5 (w.heap.size + 1 + 1) 9 [.string pw] := by rw [hw5]; exact (HPA.out.other _ _ (by dsimp; omega)).alloc C32
      have hb5 : Below w.heap.size w w5 := by rw [hw5]; exact (HB.out.setCell (by dsimp; omega) _).alloc (by rw [hsc]; omega) _
      have hq5 : Stq w2.heap.size w.heap.size (w.heap.size + 1 + 1) W w5 := by
        rw [hw5]
        exact (HQ.out.cell HO.out (by omega) (by omega) 0 _).go ((Below.refl _ _).alloc (Nat.le_refl _) _) (by omega) HLT.out
      have hgB : w.heap.size ≤ g := by omega
      rw [← hw5]
      clear hw5 hsc HPRE HO HG0 HPA HB HQ c1 c2 f2 l1 h32 he hg
      gi_loopg [65] 32 (fun gg s65 wr => ∃ i : Nat, i + gg = 32 ∧ s65 = .int .i64 i ∧ At wr g 5 (b8s (xorN (accL pre) x i)) ∧ At wr (w.heap.size + 1) 37 [.slice (some ⟨g, 0, none⟩) 32 32] ∧ At wr (w.heap.size + 1 + 1) 9 [.string pw] ∧ Below w.heap.size w wr ∧ Stq w2.heap.size w.heap.size (w.heap.size + 1 + 1) W wr)
      case atStart => exact ⟨0, by omega, rfl, hg5, ho5, hp5, hb5, hq5⟩
      case round =>
        obtain ⟨i, hi, rfl, hga, hoa, hpa, hba, hqa⟩ := hrel
        clear hg5 ho5 hp5 hb5 hq5
        have HG := Aside0.mk hga; have HO := Aside0.mk hoa; have HPA := Aside0.mk hpa; have HB := Aside0.mk hba; have HQ := Aside0.mk hqa
        have hgo := dNe hga hpa (by decide)
        have hgo2 := dNe hga hoa (by decide)
        clear hga hoa hpa hba hqa
        cases gk with
        | zero =>
          have hi32 : i = 32 := by omega
          subst hi32
          gi_wp2
          refine ⟨HQ.out.1, ⟨HQ.out.2.1, HQ.out.2.2⟩, HPA.out, .inr ⟨g, hgB, HO.out, ?_⟩, HB.out⟩
          rw [accL_snoc, ← xorN_all _ _ HACC.out HX.out]
          exact HG.out
        | succ gk =>
          have hi32 : (i : Int) < 32 := by omega
          have c1 := HG.out.cell8 i (by rw [xorN_length _ _ _ HACC.out HX.out]; omega)
          have f1 := HG.out.frozen i
          have c2 : wr.cell? ⟨w.heap.size + 1, 0, none⟩ = some (.slice (some ⟨g, 0, none⟩) 32 32) := HO.out.cell 0 _ rfl
          have i1 := index_text x i (by omega)
          gi_wp2
          refine wpIn_region_still_tail 9 (by kernel_rfl) (by kernel_rfl) (by kernel_rfl) ?_
          simp only [List.take_succ_cons, List.take_zero, List.drop_succ_cons, List.drop_zero]
          change wpStill _ _ wr.drew _ _ _
          iterate 9 still_step
          refine wpStill_nil ?_
          change wpList _ _ _ _ _ wr.drew
          go_wp2
          gi_wp2
          rw [u8x]
          go_roundg gk
          case measure => omega
          case rel =>
            refine ⟨i + 1, by omega, rfl, ?_, ((HO.out.drew).other _ _ (by dsimp; omega)), ((HPA.out.drew).other _ _ (by dsimp; omega)), HB.out.drew.setCell (by dsimp; omega) _, ?_⟩
            · have h2 := (HG.out.drew).set8 i (gb (xorN (accL pre) x i) i ^^^ gb x.data.toList i)
              rw [xorN_set _ _ i HACC.out HX.out (by omega)] at h2
              exact h2
            · exact (HQ.out.go (Below.refl _ wr).drew (by have := HLT.out; omega) HLT.out).cell HG.out.drew hgB hgo i _
    · have HO := Aside0.mk ho
      have c1 : W.cell? ⟨w.heap.size + 1, 0, none⟩ = some (.slice (some ⟨g, 0, none⟩) 32 32) := ho.cell 0 _ rfl
      have he : ∀ w : World, (binOp .eql 37 (.slice (some ⟨g, 0, none⟩) 32 32) (.slice none 0 0)).run Try.prog w = .ok (.bool false) w := fun _ => rfl
      have hg5 : At W g 5 (b8s (xorN (accL pre) x 0)) := by rw [xorN_zero]; exact ha
      have hp5 := HPA.out
      have hb5 := HB.out
      have hq5 := HQ.out
      have ho5 := ho
      have hgB := hg
      have HH := Aside0.mk (And.intro ho5 (And.intro hg5 (And.intro hp5 (And.intro hb5 hq5))))
      clear ho ha hg hI2 hsuf hall hacc HO HPA HB HQ ho5 hg5 hp5 hb5 hq5
      gi_wp2
      obtain ⟨ho5, hg5, hp5, hb5, hq5⟩ := HH.out
      clear HH c1 he
      gi_loopg [65] 32 (fun gg s65 wr => ∃ i : Nat, i + gg = 32 ∧ s65 = .int .i64 i ∧ At wr g 5 (b8s (xorN (accL pre) x i)) ∧ At wr (w.heap.size + 1) 37 [.slice (some ⟨g, 0, none⟩) 32 32] ∧ At wr (w.heap.size + 1 + 1) 9 [.string pw] ∧ Below w.heap.size w wr ∧ Stq w2.heap.size w.heap.size (w.heap.size + 1 + 1) W wr)
      case atStart => exact ⟨0, by omega, rfl, hg5, ho5, hp5, hb5, hq5⟩
      case round =>
        obtain ⟨i, hi, rfl, hga, hoa, hpa, hba, hqa⟩ := hrel
        clear hg5 ho5 hp5 hb5 hq5
        have HG := Aside0.mk hga; have HO := Aside0.mk hoa; have HPA := Aside0.mk hpa; have HB := Aside0.mk hba; have HQ := Aside0.mk hqa
        have hgo := dNe hga hpa (by decide)
        have hgo2 := dNe hga hoa (by decide)
        clear hga hoa hpa hba hqa
        cases gk with
        | zero =>
          have hi32 : i = 32 := by omega
          subst hi32
          gi_wp2
          refine ⟨HQ.out.1, ⟨HQ.out.2.1, HQ.out.2.2⟩, HPA.out, .inr ⟨g, hgB, HO.out, ?_⟩, HB.out⟩
          rw [accL_snoc, ← xorN_all _ _ HACC.out HX.out]
          exact HG.out
        | succ gk =>
          have hi32 : (i : Int) < 32 := by omega
          have c1 := HG.out.cell8 i (by rw [xorN_length _ _ _ HACC.out HX.out]; omega)
          have f1 := HG.out.frozen i
          have c2 : wr.cell? ⟨w.heap.size + 1, 0, none⟩ = some (.slice (some ⟨g, 0, none⟩) 32 32) := HO.out.cell 0 _ rfl
          have i1 := index_text x i (by omega)
          gi_wp2
          refine wpIn_region_still_tail 9 (by kernel_rfl) (by kernel_rfl) (by kernel_rfl) ?_
          simp only [List.take_succ_cons, List.take_zero, List.drop_succ_cons, List.drop_zero]
          change wpStill _ _ wr.drew _ _ _
          iterate 9 still_step
          refine wpStill_nil ?_
          change wpList _ _ _ _ _ wr.drew
          go_wp2
          gi_wp2
          rw [u8x]
          go_roundg gk
          case measure => omega
          case rel =>
            refine ⟨i + 1, by omega, rfl, ?_, ((HO.out.drew).other _ _ (by dsimp; omega)), ((HPA.out.drew).other _ _ (by dsimp; omega)), HB.out.drew.setCell (by dsimp; omega) _, ?_⟩
            · have h2 := (HG.out.drew).set8 i (gb (xorN (accL pre) x i) i ^^^ gb x.data.toList i)
              rw [xorN_set _ _ i HACC.out HX.out (by omega)] at h2
              exact h2
            · exact (HQ.out.go (Below.refl _ wr).drew (by have := HLT.out; omega) HLT.out).cell HG.out.drew hgB hgo i _
  case done =>
    rintro D xs W hD rfl hI2 hK
    have hpos : textsL pw first rounds ≠ [] := by
      intro e
      have := congrArg List.length e
      rw [textsL_length] at this
      have := HR.out
      simp at *
      omega
    rcases hI2.out with ⟨hpre, _⟩ | ⟨g, hg, ho, ha⟩
    · exact absurd hpre hpos
    have HKD := Aside0.mk hK
    have HDD := Aside0.mk hD
    have HB := Aside0.mk hI2.bel
    have HL := Aside0.mk (accL_length (textsL pw first rounds) (textsL_size pw first rounds))
    have c1 : W.cell? ⟨w.heap.size + 1, 0, none⟩ = some (.slice (some ⟨g, 0, none⟩) 32 32) := ho.cell 0 _ rfl
    have hconv : (convert 37 9 (.slice (some ⟨g, 0, none⟩) 32 32)).run Try.prog W = .ok (.string res) W := by
      have := run_convert_bytes_back (P := Try.prog) W 37 9 5 ⟨g, 0, none⟩ 32 (accL (textsL pw first rounds)) Try.underlying37 Try.underlying5 Try.underlying9 (fun j hj => by
        rw [Addr.add_mid, Nat.zero_add, ha.cell8 j hj]
        simp [gb, List.getD_eq_getElem?_getD, hj])
      rw [HL.out] at this
      rw [HRES.out]
      exact this
    have HLT : Aside0 (w.heap.size ≤ W.heap.size) := ⟨hI2.bel.size⟩
    clear hI2 hK hD ho ha hpos HL
    gi_wp2
    refine ⟨by simp, .inl ⟨_, _, rfl, run_takeDeferred HKD.out, ?_⟩⟩
    refine ⟨_, res_tt rfl _ _ _ _ rfl rfl, rfl, ?_⟩
    exact HB.out.trans (belowK_b (w := w) (Nat.le_refl _) W D _ _ (by have := HSZ.out; have := HDD.out; omega) HKD.out rfl rfl)
theorem stretch_arg (pw salt : ByteArray) (rounds block : Int) (w : World) (h : ¬ (pw.size ≤ 64 ∧ salt.size = 16 ∧ 1 ≤ rounds ∧ rounds ≤ 64 ∧ 1 ≤ block ∧ block ≤ 2147483647)) :
    Calls Try.prog 28 #[.string pw, .string salt, .int .i64 rounds, .int .i64 block] w fun e w' => e = .returned (.tuple #[.string ⟨#[]⟩, .int .i64 1]) ∧ w' = w := by
  by_cases g1 : (64 : Int) < (pw.size : Int)
  · clear h
    go_enter Try.func28, Try.ntmps28
    go_wp2
    exact bodyPost_ret (res_tt rfl _ _ _ _ rfl rfl) rfl ⟨rfl, rfl⟩
  by_cases g2 : (salt.size : Int) = 16
  · by_cases g3 : rounds < 1
    · clear h
      go_enter Try.func28, Try.ntmps28
      go_wp2
      exact bodyPost_ret (res_tt rfl _ _ _ _ rfl rfl) rfl ⟨rfl, rfl⟩
    by_cases g4 : 64 < rounds
    · clear h
      go_enter Try.func28, Try.ntmps28
      go_wp2
      exact bodyPost_ret (res_tt rfl _ _ _ _ rfl rfl) rfl ⟨rfl, rfl⟩
    by_cases g5 : block < 1
    · clear h
      go_enter Try.func28, Try.ntmps28
      go_wp2
      exact bodyPost_ret (res_tt rfl _ _ _ _ rfl rfl) rfl ⟨rfl, rfl⟩
    have g6 : 2147483647 < block := by omega
    clear h
    go_enter Try.func28, Try.ntmps28
    go_wp2
    exact bodyPost_ret (res_tt rfl _ _ _ _ rfl rfl) rfl ⟨rfl, rfl⟩
  · have g3 : ((salt.size : Int) != 16) = true := by simp [g2]
    clear h g2
    go_enter Try.func28, Try.ntmps28
    go_wp2
    exact bodyPost_ret (res_tt rfl _ _ _ _ rfl rfl) rfl ⟨rfl, rfl⟩
theorem stretchW_size (pw salt : ByteArray) (rounds block : Nat) : (stretchW pw salt rounds block).size = 32 := by
  show (accL _).toArray.size = 32
  rw [List.size_toArray, accL_length _ (textsL_size _ _ _)]
/-- What derive.Stretch tells. -/
def derive_Stretch.f (a0 a1 : ByteArray) (a2 a3 : Int) : Option (ByteArray × Int) :=
  if a0.size ≤ 64 ∧ a1.size = 16 ∧ 1 ≤ a2 ∧ a2 ≤ 64 ∧ 1 ≤ a3 ∧ a3 ≤ 2147483647 then some (stretchW a0 a1 a2.toNat a3.toNat, 0) else some (⟨#[]⟩, 1)
theorem derive_Stretch.calls (a0 a1 : ByteArray) (a2 a3 : Int) (r1 : ByteArray) (r2 : Int) (w : World) (h : derive_Stretch.f a0 a1 a2 a3 = some (r1, r2)) :
    Calls Try.prog 28 #[.string a0, .string a1, .int .i64 a2, .int .i64 a3] w fun e w' => e = .returned (.tuple #[.string r1, .int .i64 r2]) ∧ Below w.heap.size w w' := by
  unfold derive_Stretch.f at h
  split at h
  · rename_i hd
    have e := Option.some.inj h
    obtain ⟨h1, h2, h3, h4, h5, h6⟩ := hd
    have e2 : (a2.toNat : Int) = a2 := by omega
    have e3 : (a3.toNat : Int) = a3 := by omega
    have := stretch_ok a0 a1 a2.toNat a3.toNat w h1 h2 (by omega) (by omega) (by omega) (by omega)
    rw [e2, e3] at this
    injection e with e4 e5
    subst e4; subst e5
    exact this
  · rename_i hd
    have e := Option.some.inj h
    injection e with e4 e5
    subst e4; subst e5
    exact (stretch_arg a0 a1 a2 a3 w hd).mono fun e w' ⟨h1, h2⟩ => ⟨h1, by rw [h2]; exact Below.refl _ _⟩
end Go.Proofs.Ytbafbpfpnfnikaa.Given
