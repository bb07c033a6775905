/- The contract of derive's texts: the iterator over the rounds' texts. Conditions: as each theorem names them. A region that draws its order, whose first operations only read, inside a round of a range over a function: the still-tail law of the kit, carried into the wide fence's rounds. Conditions: the region holds no defer statement. The contract of derive.Stretch. Conditions: passwords of at most 64 bytes, and so on: as it is called. The plain law of what is stretched. Conditions: as each theorem names them. -/
import Derived.Test.YtdegeodegjmddaaZShaQ2
import Derived.Test.YtdegeodegjmddaaZRowQ
import Derived.Sort.LoopGhostIn
import Derived.Sort.QuietIn
import Derived.Shelf.RegionOpen
import Derived.StillTailTactics
set_option linter.unusedVariables false
set_option linter.unusedSimpArgs false
namespace Go.Proofs.Ytdegeodegjmddaa.Given
open Go.RowKit Go.Proofs.YtdegeodegjmddaaW.PrintWords Go.Proofs.YtdegeodegjmddaaW.PrintLast Go.Proofs.YtdegeodegjmddaaW.PrintMore
open Go.Proofs.Ytdegeodegjmddaa.Row Go.Proofs.Ytdegeodegjmddaa.Row.At Go.Proofs.Ytdegeodegjmddaa.Range
set_option maxRecDepth 100000
set_option linter.unusedVariables false
set_option linter.unusedSimpArgs false
attribute [local go_sem] Oper.semAt_some
theorem callsIn_roundD {n l : Nat} {P : Program} {f : FuncId} {args : Array Value} {w : World} {R : Ending → World → Prop} (h : Calls P f args w R) : CallsIn (Fence.wide.inRound l) n P f args w R := callsIn_wide.2 h
/-- a round's text -/
def uN (pw first : ByteArray) : Nat → ByteArray
  | 0 => first
  | k + 1 => hmacW pw (uN pw first k)
theorem hmacW_size (a b : ByteArray) : (hmacW a b).size = 32 := shaW_size _
theorem uN_size (pw first : ByteArray) (k : Nat) : (uN pw first (k + 1)).size = 32 := hmacW_size _ _
theorem uN_le (pw first : ByteArray) (hf : first.size ≤ 1000) (k : Nat) : (uN pw first k).size ≤ 1000 := by
  cases k with
  | zero => exact hf
  | succ k => rw [uN_size]; decide
def textsL (pw first : ByteArray) (n : Nat) : List ByteArray := (List.range n).map fun k => uN pw first (k + 1)
theorem textsL_length (pw first : ByteArray) (n : Nat) : (textsL pw first n).length = n := by simp [textsL]
theorem textsL_size (pw first : ByteArray) (n : Nat) (u : ByteArray) (h : u ∈ textsL pw first n) : u.size = 32 := by
  simp only [textsL, List.mem_map] at h
  obtain ⟨k, _, rfl⟩ := h
  exact uN_size _ _ _
theorem texts_any (pw first : ByteArray) (n : Int) (w : World) :
    Calls Try.prog 45 #[.string pw, .string first, .int .i64 n] w fun e w' => e = .returned (.func (.func 64) #[] #[.pointer (some ⟨w.heap.size + 1, 0, none⟩), .pointer (some ⟨w.heap.size + 1 + 1, 0, none⟩), .pointer (some ⟨w.heap.size, 0, none⟩)]) ∧
      w' = ((w.alloc (.cells #[.string pw] 9)).alloc (.cells #[.string first] 9)).alloc (.cells #[.int .i64 n] 3) := by
  go_enter Try.func45, Try.ntmps45
  go_wp2
  go_ret
  exact ⟨rfl, rfl⟩
def KpD (B Bl : Nat) (X Y : World) : Prop := Below B X Y ∧ Y.heap[Bl]? = X.heap[Bl]?
set_option maxHeartbeats 1000000 in
theorem texts_in (n L B1 B2 B3 B : Nat) (pw first : ByteArray) (m : Nat) (J : List ByteArray → World → Prop)
    (hJ : ∀ s X Y, J s X → Below X.heap.size X Y → J s Y)
    (hY : ∀ pre x W, J pre W → (∃ suf, textsL pw first m = pre ++ x :: suf) → YieldAt Fence.wide (n - 1) Try.prog L #[.string x] W fun e W' => e = .returned (.bool true) ∧ J (pre ++ [x]) W' ∧ KpD B B3 W W')
    (W : World) (hp : pw.size ≤ 1000) (hf : first.size ≤ 1000) (hm : m ≤ 1000) (h1 : At W B1 9 [.string first]) (h2 : At W B2 3 [.int .i64 m]) (h3 : At W B3 9 [.string pw]) (h0 : J [] W) :
    CallsIn Fence.wide n Try.prog 64 #[.func (.yield L) #[] #[], .pointer (some ⟨B1, 0, none⟩), .pointer (some ⟨B2, 0, none⟩), .pointer (some ⟨B3, 0, none⟩)] W fun e W' => (∃ v, e = .returned v) ∧ J (textsL pw first m) W' := by
  refine callsIn_of_wp Try.func64 rfl trivial ?_ rfl
  simp only [Try.ntmps64, List.size_toArray, List.length_cons, List.length_nil, Nat.reduceAdd, Nat.reduceSub, Array.replicate_succ, Array.replicate_zero, List.push_toArray, List.append_toArray, List.nil_append, List.cons_append]
  have HY := Aside0.mk hY
  have HJS := Aside0.mk hJ
  have HP := Aside0.mk (And.intro hp (And.intro hf hm))
  have c1 := h1.cell 0 _ rfl
  have c2 := h2.cell 0 _ rfl
  clear hY hJ hp hf hm
  gi_wp2
  clear c1 c2
  gi_loopg [5, 8] m (fun gg s5 s8 wr => ∃ k : Nat, k + gg = m ∧ s8 = .int .i64 k ∧ s5 = .string (uN pw first k) ∧ At wr B3 9 [.string pw] ∧ J ((textsL pw first m).take k) wr)
  case atStart => exact ⟨0, by omega, rfl, rfl, h3, by simpa using h0⟩
  case round =>
    obtain ⟨k, hk, rfl, rfl, ha, hj⟩ := hrel
    have HA := Aside0.mk ha; have HJ := Aside0.mk hj
    clear ha hj h0 h1 h2 h3
    have hcell := HA.out.cell 0 _ rfl
    cases gk with
    | zero =>
      have hkm : k = m := by omega
      subst hkm
      have hlt : ¬ ((k : Int) < (k : Int)) := by omega
      gi_wp2
      go_end0
      refine ⟨⟨_, rfl⟩, ?_⟩
      have e : (textsL pw first k).take k = textsL pw first k := List.take_of_length_le (by rw [textsL_length]; exact Nat.le_refl _)
      rw [← e]
      exact HJ.out
    | succ gk =>
      have hlt : (k : Int) < (m : Int) := by omega
      have hlen : k < (textsL pw first m).length := by rw [textsL_length]; omega
      have hget : (textsL pw first m)[k] = uN pw first (k + 1) := by simp [textsL]
      have hsplit : textsL pw first m = (textsL pw first m).take k ++ uN pw first (k + 1) :: (textsL pw first m).drop (k + 1) := by
        rw [← hget, List.getElem_cons_drop, List.take_append_drop]
      have htake : (textsL pw first m).take (k + 1) = (textsL pw first m).take k ++ [uN pw first (k + 1)] := by
        rw [← hget, List.take_append_getElem]
      have HSP := Aside0.mk hsplit
      have HT := Aside0.mk htake
      have HUL := Aside0.mk (uN_le pw first HP.out.2.1 k)
      clear hsplit hget hlen htake
      gi_wp2_with (refine ⟨trivial, fun h => absurd h (by simp [Fence.wide]), ?_⟩; gi_at_call 65; (refine (callsIn_wide.2 (hmac_any pw (uN pw first k) (by have := HP.out.1; omega) (by have := HUL.out; omega) _)).mono ?_); rintro e w2 ⟨rfl, hb⟩; have n1 := Aside0.mk (at_go1 HA.out hb); have n2 := Aside0.mk (HJS.out _ _ _ HJ.out hb); clear HA HJ hb hcell; have HA := n1; have HJ := n2; clear n1 n2; obtain ⟨fn, tmps, assign, body, hy, hR⟩ := HY.out ((textsL pw first m).take k) (hmacW pw (uN pw first k)) w2 HJ.out ⟨_, HSP.out⟩)
      refine ⟨fun h => (by simp [Fence.wide] at h), hR.mono ?_⟩
      rintro e W3 ⟨rfl, hJ3, hb3, hv3⟩
      have HA3 : Aside0 (At W3 B3 9 [.string pw]) := ⟨⟨hv3.trans HA.out.heap⟩⟩
      have HJ3 := Aside0.mk hJ3
      clear hJ3 hb3 hv3 hR hy
      gi_wp2
      go_roundg gk
      case measure => omega
      case rel => exact ⟨k + 1, by omega, by rw [wrap64_of_bounds (by omega) (by have := HP.out.2.2; omega)]; rfl, rfl, HA3.out, by rw [HT.out]; exact HJ3.out⟩
end Go.Proofs.Ytdegeodegjmddaa.Given

namespace Go.Proofs.Ytdegeodegjmddaa.Range
open Go.RowKit
variable {n : Nat} {P : Program}
theorem wpIn_of_wp {l : Nat} {o : Oper} {a : Act} {w : World} {K K' : Act → World → Prop} {Q Q' : Exit → Act → World → Prop} (hd : ∀ c, o.op ≠ .defer c) (hK : ∀ a w, K a w → K' a w)
    (hp : ∀ c a w, Q (.panic c) a w → Q' (.panic c) a w) (hno : ¬ LetsOut Q) (h : o.wp P a w K Q) : o.wpIn (Fence.wide.inRound l) n P a w K' Q' := by
  refine ⟨fun f _ => trivial, ?_⟩
  rw [Oper.semAt_eq _ _ _ hd]
  unfold Oper.wp at h
  generalize (execOp a.eval o).run P w = r at h
  cases r with
  | ok x w' =>
    cases x with
    | value v => exact hK _ _ h
    | skip => exact hK _ _ h
    | defer d => exact hK _ _ h
    | enter f args =>
      refine ⟨fun hdep => by simp [Fence.wide] at hdep, ?_⟩
      have h2 : CallsIn (Fence.wide.inRound l) (n - 1) P f args w' _ := callsIn_wide.2 h
      refine h2.mono ?_
      intro e w'' hh
      cases e with
      | returned v => exact hK _ _ hh
      | panicked chain => exact hp _ _ _ hh
      | outgrown => exact absurd hh hno
    | row row args =>
      refine ⟨fun hdep => by simp [Fence.wide] at hdep, fun c cs _ => ?_⟩
      obtain ⟨v, w'', r, s⟩ := h c cs
      exact ⟨v, w'', hK _ _ r, stepsIn_wide.2 s⟩
    | round _ _ _ _ _ => exact h.elim
    | _ => exact h.elim
  | halt x w' =>
    cases x with
    | panic v => exact hp _ _ _ h
    | _ => exact h.elim
theorem wpAnyIn_of_wpAny {l : Nat} {md : Region.Mode} {ops : Array Oper} {Q Q' : Exit → Act → World → Prop} (hd : ∀ (i : Nat) (o : Oper), ops[i]? = some o → ∀ c, o.op ≠ .defer c) (hn : ∀ a w, Q .normal a w → Q' .normal a w)
    (hp : ∀ c a w, Q (.panic c) a w → Q' (.panic c) a w) (hno : ¬ LetsOut Q) : ∀ (fuel : Nat) (listed : Array Bool) (a : Act) (w : World), wpAny P md ops Q fuel listed a w → wpAnyIn (Fence.wide.inRound l) n P md ops Q' fuel listed a w
  | 0, listed, a, w, h => ⟨h.1, hn _ _ h.2⟩
  | fuel + 1, listed, a, w, h => by
    refine ⟨fun hr => hn _ _ (h.1 hr), fun i hi => ?_⟩
    have h1 := h.2 i hi
    unfold wpOp at h1
    unfold wpOpIn
    cases ho : ops[i]? with
    | none => rw [ho] at h1; exact wpAnyIn_of_wpAny hd hn hp hno fuel _ _ _ h1
    | some o =>
      rw [ho] at h1
      dsimp only at h1 ⊢
      by_cases hw : Region.wanted o (yielded ops a.tmps) = true
      · rw [if_pos hw] at h1 ⊢
        rcases h1 with h1 | h1
        · exact wpIn_of_wp (hd i o ho) (fun a w => wpAnyIn_of_wpAny hd hn hp hno fuel _ a w) hp hno h1
        · exact absurd h1.2 hno
      · rw [if_neg hw] at h1 ⊢
        exact ⟨fun _ _ => trivial, wpAnyIn_of_wpAny hd hn hp hno fuel _ _ _ h1⟩
/-- is no operation a defer statement? -/
def noDefer (l : List Oper) : Bool := l.all fun o => match o.op with | .defer _ => false | _ => true
theorem noDefer_spec {l : List Oper} (h : noDefer l = true) (i : Nat) (o : Oper) (ho : l.toArray[i]? = some o) (c : Call) : o.op ≠ .defer c := by
  intro e
  have hm : o ∈ l := by
    have : l[i]? = some o := by simpa using ho
    exact List.mem_of_getElem? this
  have := List.all_eq_true.1 h o hm
  rw [e] at this
  cases this
theorem wpIn_region_of_wp {l id : Nat} {ops : List Oper} {Q : Exit → Act → World → Prop} {a : Act} {w : World} (hm : P.follows .mixedOrders = true) (hd : noDefer ops = true)
    (h : wpAny P .any ops.toArray (fun e a w => e = .normal ∧ Q .normal a w) ops.toArray.size (Array.replicate ops.toArray.size false) a { w with drawn := w.drawn + 1 }) : (Code.region id ops.toArray true).wpIn (Fence.wide.inRound l) n P Q a w :=
  wpIn_region_any hm (wpAnyIn_of_wpAny (fun i o ho c => noDefer_spec hd i o ho c) (fun _ _ h => h.2) (fun _ _ _ h => nomatch h.1) (fun ⟨_, _, h⟩ => nomatch h.1) _ _ _ _ h)
theorem wpIn_region_still_tail {id l : Nat} {Q : Exit → Act → World → Prop} {a : Act} {w : World} {ops : List Oper} (k : Nat) (hm : P.follows .mixedOrders = true) (hB : Region.lexTailB .any ops.toArray k = true) (hd : noDefer ops = true)
    (h : wpStill P ops.toArray { w with drawn := w.drawn + 1 } (fun a' => wpList P ops.toArray (fun e a w => e = .normal ∧ Q .normal a w) (ops.drop k) a' { w with drawn := w.drawn + 1 }) (ops.take k) a) : (Code.region id ops.toArray true).wpIn (Fence.wide.inRound l) n P Q a w := by
  refine wpIn_region_of_wp hm hd ?_
  simp only [Region.lexTailB, Bool.and_eq_true, decide_eq_true_eq] at hB
  obtain ⟨⟨⟨⟨hsel, hn⟩, hs⟩, hc⟩, hlex⟩ := hB
  have hn' : k < ops.length := by simpa using hn
  have htl : (ops.take k).length = k := by simp; omega
  have hdl : (ops.drop k).length = ops.toArray.size - k := by simp
  have inv0 : HeadInv .any ops.toArray k (Array.replicate ops.toArray.size false) :=
    ⟨by simp, fun j oj _ hl => (by rw [getD_replicate_false] at hl; cases hl), fun t _ ht => getD_in (by simpa using ht) (getD_replicate_false _ _)⟩
  have H := wpAnyL_lex (md := .any) (g := ops.toArray.size - k) hsel hs hc hn (ops.take k) 0 _ a (fun j hj => by
    have hj' : j < k := by rw [htl] at hj; exact hj
    simp [hj']) (by simpa using htl) inv0 (by rw [htl]; exact hlex) h
  have := wpAny_of_head (Q' := fun e a w => e = .normal ∧ Q .normal a w) (g := ops.toArray.size - k) (fun listed a' hL => by
    have := wpAny_of_seq (md := .any) (Q' := fun e a w => e = .normal ∧ Q .normal a w) (ops.drop k) k listed a' { w with drawn := w.drawn + 1 } (fun j => by simp [List.getElem?_drop]) (by rw [hdl]; exact hL.1) hL.2
    rwa [hdl] at this) _ _ _ H
  rw [htl, show k + (ops.toArray.size - k) = ops.toArray.size by omega] at this
  exact this
end Go.Proofs.Ytdegeodegjmddaa.Range

namespace Go.Proofs.Ytdegeodegjmddaa.Given
open Go.RowKit Go.Proofs.YtdegeodegjmddaaW.PrintWords Go.Proofs.YtdegeodegjmddaaW.PrintLast Go.Proofs.YtdegeodegjmddaaW.PrintMore
open Go.Proofs.Ytdegeodegjmddaa.Row Go.Proofs.Ytdegeodegjmddaa.Row.At Go.Proofs.Ytdegeodegjmddaa.Range
set_option maxRecDepth 100000
set_option linter.unusedVariables false
set_option linter.unusedSimpArgs false
attribute [local go_sem] Oper.semAt_some
/-- a block's number in four bytes -/
def numL4 (b : Nat) : List UInt8 := [UInt8.ofNat (b / 16777216), UInt8.ofNat (b / 65536), UInt8.ofNat (b / 256), UInt8.ofNat b]
def numB (b : Nat) : ByteArray := ⟨(numL4 b).toArray⟩
theorem numB_size (b : Nat) : (numB b).size = 4 := rfl
/-- bytes put together by exclusive or -/
def xorA (a : List UInt8) (u : ByteArray) : List UInt8 := List.zipWith (· ^^^ ·) a u.data.toList
def accL (l : List ByteArray) : List UInt8 := l.foldl xorA (List.replicate 32 0)
theorem accL_length (l : List ByteArray) (h : ∀ u ∈ l, u.size = 32) : (accL l).length = 32 := by
  have key : ∀ (l : List ByteArray) (a : List UInt8), (∀ u ∈ l, u.size = 32) → a.length = 32 → (l.foldl xorA a).length = 32 := by
    intro l
    induction l with
    | nil => intro a _ ha; exact ha
    | cons u l ih =>
      intro a hl ha
      rw [List.foldl_cons]
      refine ih _ (fun v hv => hl v (List.mem_cons_of_mem _ hv)) ?_
      have hu : u.data.toList.length = 32 := by rw [Array.length_toList]; exact hl u (List.mem_cons_self ..)
      rw [xorA, List.length_zipWith, ha, hu]; rfl
  exact key l _ h (by simp)
theorem accL_snoc (l : List ByteArray) (u : ByteArray) : accL (l ++ [u]) = xorA (accL l) u := by simp [accL]
def stretchW (pw salt : ByteArray) (rounds block : Nat) : ByteArray := ⟨(accL (textsL pw (salt ++ numB block) rounds)).toArray⟩
theorem num_conv (block : Nat) (hb : block ≤ 2147483647) (w : World) : (convert 43 9 (.slice (some ⟨w.heap.size, 0, none⟩) 4 4)).run Try.prog (w.alloc (.cells #[.int .u8 (block / 16777216 : Int), .int .u8 (block / 65536 % 256 : Int), .int .u8 (block / 256 % 256 : Int), .int .u8 (block % 256 : Int)] 5 (0, 0))) = .ok (.string (numB block)) (w.alloc (.cells #[.int .u8 (block / 16777216 : Int), .int .u8 (block / 65536 % 256 : Int), .int .u8 (block / 256 % 256 : Int), .int .u8 (block % 256 : Int)] 5 (0, 0))) := by
  have e0 : ((UInt8.ofNat (block / 16777216)).toNat : Int) = (block / 16777216 : Int) := by rw [UInt8.toNat_ofNat']; omega
  have e1 : ((UInt8.ofNat (block / 65536)).toNat : Int) = (block / 65536 % 256 : Int) := by rw [UInt8.toNat_ofNat']; omega
  have e2 : ((UInt8.ofNat (block / 256)).toNat : Int) = (block / 256 % 256 : Int) := by rw [UInt8.toNat_ofNat']; omega
  have e3 : ((UInt8.ofNat block).toNat : Int) = (block % 256 : Int) := by rw [UInt8.toNat_ofNat']; omega
  rw [← e0, ← e1, ← e2, ← e3]
  exact run_convert_bytes_back (P := Try.prog) _ 43 9 5 ⟨w.heap.size, 0, none⟩ 4 (numL4 block) Try.underlying43 Try.underlying5 Try.underlying9 (fun j hj => by
    have hj4 : j < 4 := hj
    rw [Addr.add_mid, Nat.zero_add, cell_of_row _ w.heap.size j _ _ _ (heap_alloc_new w _)]
    rcases j with _ | _ | _ | _ | j
    · rfl
    · rfl
    · rfl
    · rfl
    · omega)
theorem dNe {w : World} {g h : Nat} {t u : TypeId} {cs ds : List Value} (hg : At w g t cs) (hh : At w h u ds) (hn : (t == u) = false) : g ≠ h := by
  intro e
  subst e
  have := hg.heap.symm.trans hh.heap
  injection this with this
  injection this with _ ht
  rw [ht] at hn
  simp at hn
/-- Between two rounds: the box of the password, and the sum's box (o). -/
structure StrI (B o bp : Nat) (pw : ByteArray) (w : World) (pre : List ByteArray) (W : World) : Prop where
  p : At W bp 9 [.string pw]
  out : (pre = [] ∧ At W o 43 [.slice none 0 0]) ∨ ∃ g, B ≤ g ∧ At W o 43 [.slice (some ⟨g, 0, none⟩) 32 32] ∧ At W g 5 (b8s (accL pre))
  bel : Below B w W
theorem StrI.go {B o bp : Nat} {pw : ByteArray} {w W W' : World} {pre : List ByteArray} (h : StrI B o bp pw w pre W) (hB : B ≤ w.heap.size) (hb : Below W.heap.size W W') : StrI B o bp pw w pre W' := by
  refine ⟨at_go1 h.p hb, ?_, h.bel.trans (hb.mono (Nat.le_trans hB h.bel.size))⟩
  rcases h.out with ⟨h1, h2⟩ | ⟨g, h1, h2, h3⟩
  · exact .inl ⟨h1, at_go1 h2 hb⟩
  · exact .inr ⟨g, h1, at_go1 h2 hb, at_go1 h3 hb⟩
theorem at_calm1 {B : Nat} {W W' : World} {g : Nat} {t : TypeId} {cs : List Value} (h : At W g t cs) (hc : Range.Calm B W W') : At W' g t cs := ⟨hc.cells h.heap⟩
theorem StrI.calm {B o bp : Nat} {pw : ByteArray} {w W W' : World} {pre : List ByteArray} (h : StrI B o bp pw w pre W) (hB : B ≤ w.heap.size) {D : Nat} (hD : B ≤ D) (hb : Range.Calm D W W') : StrI B o bp pw w pre W' := by
  refine ⟨at_calm1 h.p hb, ?_, h.bel.trans (hb.below hD (Nat.le_trans hB h.bel.size))⟩
  rcases h.out with ⟨h1, h2⟩ | ⟨g, h1, h2, h3⟩
  · exact .inl ⟨h1, at_calm1 h2 hb⟩
  · exact .inr ⟨g, h1, at_calm1 h2 hb, at_calm1 h3 hb⟩
theorem texts_seq (pw first : ByteArray) (m : Nat) (w W : World) (n B1 B2 B3 B : Nat) (hp : pw.size ≤ 1000) (hf : first.size ≤ 1000) (hm : m ≤ 1000) (h1 : At W B1 9 [.string first]) (h2 : At W B2 3 [.int .i64 m]) (h3 : At W B3 9 [.string pw]) :
    SeqBy Fence.wide n Try.prog 64 #[.pointer (some ⟨B1, 0, none⟩), .pointer (some ⟨B2, 0, none⟩), .pointer (some ⟨B3, 0, none⟩)] (fun x : ByteArray => #[.string x]) (fun A B => Below A.heap.size A B) (KpD B B3)
      (fun xs => xs = textsL pw first m) (fun pre x => ∃ suf, textsL pw first m = pre ++ x :: suf) W := by
  intro L J W1 hcalm hJ hY h0
  exact (texts_in n L B1 B2 B3 B pw first m J hJ hY W1 hp hf hm (at_calm1 h1 hcalm) (at_calm1 h2 hcalm) (at_calm1 h3 hcalm) h0).mono fun e W' ⟨he, hj⟩ => ⟨he, _, rfl, hj⟩
theorem res_tt {fn : Func} {p p' : Tmp} (h : fn.results = #[.tmp p, .tmp p']) (tmps : Array Value) (w : World) (v v' : Value) (hp : tmps.getD p undef = v) (hp' : tmps.getD p' undef = v') :
    (results fn tmps).run Try.prog w = .ok (.tuple #[v, v']) w := by
  have h1 : tmps[p]?.getD undef = v := by simpa using hp
  have h2 : tmps[p']?.getD undef = v' := by simpa using hp'
  simp [results, h, h1, h2, go_sem]
/-- What a round's steps keep. -/
def Stq (D B bp : Nat) (W W' : World) : Prop := Others D W W' ∧ Below B W W' ∧ W'.heap[bp]? = W.heap[bp]?
theorem Stq.refl (D B bp : Nat) (W : World) : Stq D B bp W W := ⟨⟨Nat.le_refl _, fun k o _ e _ => e⟩, Below.refl _ _, rfl⟩
theorem Stq.go {D B bp : Nat} {W X Y : World} (h : Stq D B bp W X) (hb : Below X.heap.size X Y) (hB : B ≤ W.heap.size) (hp : bp < W.heap.size) : Stq D B bp W Y := by
  have hs := h.1.1
  refine ⟨⟨Nat.le_trans hs hb.size, fun k o hk e ho => ?_⟩, h.2.1.trans (hb.mono (Nat.le_trans hB hs)), (hb.block bp (by omega)).trans h.2.2⟩
  have h1 := h.1.2 k o hk e ho
  exact (hb.block k (Array.getElem?_eq_some_iff.1 h1).1).trans h1
theorem Stq.cell {D B bp : Nat} {W X : World} (h : Stq D B bp W X) {g : Nat} {t : TypeId} {cs : List Value} (ha : At X g t cs) (hg : B ≤ g) (hp : g ≠ bp) (j : Nat) (v : Value) : Stq D B bp W (X.setCell ⟨g, j, none⟩ v) := by
  refine ⟨⟨by have := h.1.1; simpa [World.setCell] using this, fun k o hk e ho => ?_⟩, h.2.1.setCell hg _, (Below.heap_setCell _ _ _ _ (by dsimp; omega)).trans h.2.2⟩
  have h1 := h.1.2 k o hk e ho
  rw [Below.heap_setCell _ _ _ _ (fun e2 => ?_)]
  · exact h1
  · have e3 : k = g := e2
    rw [e3, ha.heap] at h1
    cases h1
    cases ho
/-- In the midst of a round's sum -/
def xorN (a : List UInt8) (u : ByteArray) (i : Nat) : List UInt8 := (xorA a u).take i ++ a.drop i
theorem xorN_length (a : List UInt8) (u : ByteArray) (i : Nat) (ha : a.length = 32) (hu : u.size = 32) : (xorN a u i).length = 32 := by
  have h2 : u.data.toList.length = 32 := hu
  simp only [xorN, xorA, List.length_append, List.length_take, List.length_zipWith, List.length_drop]
  omega
theorem xorN_zero (a : List UInt8) (u : ByteArray) : xorN a u 0 = a := by simp [xorN]
theorem xorN_all (a : List UInt8) (u : ByteArray) (ha : a.length = 32) (hu : u.size = 32) : xorN a u 32 = xorA a u := by
  have h2 : u.data.toList.length = 32 := hu
  rw [xorN, List.take_of_length_le (by rw [xorA, List.length_zipWith]; omega), List.drop_of_length_le (by omega), List.append_nil]
theorem xorN_set (a : List UInt8) (u : ByteArray) (i : Nat) (ha : a.length = 32) (hu : u.size = 32) (hi : i < 32) : (xorN a u i).set i (gb (xorN a u i) i ^^^ gb u.data.toList i) = xorN a u (i + 1) := by
  have h2 : u.data.toList.length = 32 := hu
  have hl : (xorA a u).length = 32 := by rw [xorA, List.length_zipWith]; omega
  have ht : ((xorA a u).take i).length = i := by rw [List.length_take]; omega
  unfold xorN
  have hg : gb ((xorA a u).take i ++ a.drop i) i = a[i] := by
    rw [gb, List.getD_eq_getElem?_getD, List.getElem?_append_right (by omega), ht, Nat.sub_self, List.getElem?_drop, Nat.add_zero, List.getElem?_eq_getElem (by omega)]
    rfl
  have hg2 : gb u.data.toList i = u.data.toList[i] := by rw [gb, List.getD_eq_getElem?_getD, List.getElem?_eq_getElem (by omega)]; rfl
  rw [hg, hg2, List.set_append_right _ _ (by omega), ht, Nat.sub_self, ← List.take_append_getElem (by omega : i < (xorA a u).length), List.append_assoc, ← List.getElem_cons_drop (by omega : i < a.length), List.set_cons_zero]
  simp [xorA]
theorem index_text (b : ByteArray) (i : Nat) (h : i < b.size) (w : World) : (Instr.index 9 (.string b) (.int .i64 (i : Int))).run Try.prog w = .ok (.int .u8 (gb b.data.toList i).toNat) w := by
  have h1 : (0 : Int) ≤ (i : Int) ∧ (i : Int) < (b.size : Int) := by omega
  simp [Instr.index, go_sem, h1, gb, List.getD_eq_getElem?_getD]
  have h2 : i < b.data.size := h
  have h3 : b.data[i]? = some b.data[i] := Array.getElem?_eq_getElem h2
  rw [getElem?_pos b i h, h3]
  rfl
theorem made32 (W : World) : At (W.alloc (.cells (madeCells #[.int .u8 0] 32) 5 (0, 0))) W.heap.size 5 (b8s (List.replicate 32 0)) := by
  have e : madeCells #[.int .u8 0] 32 = (b8s (List.replicate 32 0)).toArray := by
    have := toList_madeCells_one (.int .u8 0) 32
    rw [← Array.toArray_toList (xs := madeCells #[.int .u8 0] 32), this]
    rfl
  rw [e]
  exact At.new W _ _
set_option maxHeartbeats 1000000 in
theorem stretch_ok (pw salt : ByteArray) (rounds block : Nat) (w : World) (hp : pw.size ≤ 64) (hs : salt.size = 16) (hr1 : 1 ≤ rounds) (hr2 : rounds ≤ 64) (hb1 : 1 ≤ block) (hb2 : block ≤ 2147483647) :
    Calls Try.prog 27 #[.string pw, .string salt, .int .i64 rounds, .int .i64 block] w fun e w' => e = .returned (.tuple #[.string (stretchW pw salt rounds block), .int .i64 0]) ∧ Below w.heap.size w w' := by
  obtain ⟨res, hres⟩ : ∃ r, r = stretchW pw salt rounds block := ⟨_, rfl⟩
  rw [← hres]
  have HRES0 : Aside0 (res = ⟨(accL (textsL pw (salt ++ numB block) rounds)).toArray⟩) := ⟨hres⟩
  clear hres
  refine callsIn_wide (n := 6) |>.1 ?_
  refine callsIn_of_wp_marks Try.func27 rfl trivial ?_ rfl
  simp only [Try.ntmps27, List.size_toArray, List.length_cons, List.length_nil, Nat.reduceAdd, Nat.reduceSub, Array.replicate_succ, Array.replicate_zero, List.push_toArray, List.append_toArray, List.nil_append, List.cons_append]
  have HP := Aside0.mk hp
  have HS := Aside0.mk hs
  have HR := Aside0.mk (And.intro hr1 hr2)
  have HBK := Aside0.mk (And.intro hb1 hb2)
  have g1 : ¬ ((64 : Int) < (pw.size : Int)) := by omega
  have g2 : ((salt.size : Int) != 16) = false := by rw [hs]; rfl
  have g2b : (salt.size : Int) = 16 := by omega
  have g3 : ¬ ((rounds : Int) < 1) := by omega
  have g4 : ¬ ((64 : Int) < (rounds : Int)) := by omega
  have g5 : ¬ ((block : Int) < 1) := by omega
  have g6 : ¬ ((2147483647 : Int) < (block : Int)) := by omega
  have HCV := Aside0.mk (num_conv block hb2)
  have cv := num_conv block hb2 w
  have l0 : salt.size + (numB block).size ≤ 9223372036854775807 := by rw [hs, numB_size]; decide
  clear hp hs hr1 hr2 hb1 hb2
  gi_wp2_with (refine ⟨trivial, ?_⟩; gi_at_call 45; refine (callsIn_wide.2 (texts_any _ _ _ _)).mono ?_; rintro e wB ⟨rfl, rfl⟩)
  obtain ⟨w2, hw2⟩ : ∃ w2, w2 = (((((w.alloc (.cells #[.int .u8 (block / 16777216 : Int), .int .u8 (block / 65536 % 256 : Int), .int .u8 (block / 256 % 256 : Int), .int .u8 (block % 256 : Int)] 5 (0, 0))).alloc (.cells #[.slice none 0 0] 43 (0, 0))).alloc (.cells #[.string pw] 9 (0, 0))).alloc (.cells #[.string (salt ++ numB block)] 9 (0, 0))).alloc (.cells #[.int .i64 rounds] 3 (0, 0))) := ⟨_, rfl⟩
  rw [← hw2]
  have ho : At w2 (w.heap.size + 1) 43 [.slice none 0 0] := by rw [hw2]; exact (((At.newAt (by simp)).alloc _).alloc _).alloc _
  have hp3 : At w2 (w.heap.size + 1 + 1) 9 [.string pw] := by rw [hw2]; exact ((At.newAt (by simp)).alloc _).alloc _
  have hf1 : At w2 (w.heap.size + 1 + 1 + 1) 9 [.string (salt ++ numB block)] := by rw [hw2]; exact (At.newAt (by simp)).alloc _
  have hn2 : At w2 (w.heap.size + 1 + 1 + 1 + 1) 3 [.int .i64 rounds] := by rw [hw2]; exact At.newAt (by simp)
  have hb2 : Below w.heap.size w w2 := by rw [hw2]; exact (((((Below.refl _ w).alloc (Nat.le_refl _) _).alloc (by simp) _).alloc (by simp; omega) _).alloc (by simp; omega) _).alloc (by simp; omega) _
  have hs2 : w2.heap.size = w.heap.size + 5 := by rw [hw2]; simp
  obtain ⟨first, hfirst⟩ : ∃ f, f = salt ++ numB block := ⟨_, rfl⟩
  have hfs : first.size = 20 := by rw [hfirst, ByteArray.size_append, HS.out, numB_size]
  have HRES : Aside0 (res = ⟨(accL (textsL pw first rounds)).toArray⟩) := ⟨by rw [HRES0.out, hfirst]⟩
  rw [← hfirst] at hf1 ⊢
  have HSEQ := Aside0.mk (texts_seq pw first rounds w2 w2 (6 - 1) (w.heap.size + 1 + 1 + 1) (w.heap.size + 1 + 1 + 1 + 1) (w.heap.size + 1 + 1) w.heap.size (by have := HP.out; omega) (by omega) (by have := HR.out; omega) hf1 hn2 hp3)
  have HI0 : Aside0 (StrI w.heap.size (w.heap.size + 1) (w.heap.size + 1 + 1) pw w [] w2) := ⟨⟨hp3, .inl ⟨rfl, ho⟩, hb2⟩⟩
  have HSZ := Aside0.mk hs2
  clear hw2 ho hp3 hf1 hn2 hb2 hs2 hfirst hfs HRES0 HCV cv
  refine wp_rangeBy rfl (by omega) (gf := 64) (lb := #[.pointer (some ⟨w.heap.size + 1 + 1 + 1, 0, none⟩), .pointer (some ⟨w.heap.size + 1 + 1 + 1 + 1, 0, none⟩), .pointer (some ⟨w.heap.size + 1 + 1, 0, none⟩)]) rfl trivial (enters_of Try.func64 (by kernel_rfl) rfl)
    HSEQ.out ?hSt (fun h k => ⟨h.1.trans k.1, k.2.trans h.2⟩) ?hKb (fun _ => rfl) (fun pre W => StrI w.heap.size (w.heap.size + 1) (w.heap.size + 1 + 1) pw w pre W)
    (fun s X Y h hc => h.calm (Nat.le_refl _) (by rw [HSZ.out]; omega) hc) (fun s X Y h hs => h.go (Nat.le_refl _) hs) HI0.out
    (fun x => { tmps := #[Value.string pw, Value.string salt, Value.int IntKind.i64 ↑rounds, Value.int IntKind.i64 ↑block, undef, undef,
          undef, undef, Value.string { data := #[] }, Value.int IntKind.i64 0, Value.string (numB block),
          Value.pointer (some { block := w.heap.size + 1, off := 0 }), .string x, undef, Value.string pw,
          Value.int IntKind.i64 ↑pw.size, Value.bool false, Value.bool false, Value.string salt,
          Value.int IntKind.i64 16, Value.bool false, Value.bool false, Value.bool false, Value.int IntKind.i64 ↑rounds,
          Value.bool false, Value.bool false, Value.bool false, Value.int IntKind.i64 ↑rounds, Value.bool false,
          Value.bool false, Value.bool false, Value.int IntKind.i64 ↑block, Value.bool false, Value.bool false,
          Value.bool false, Value.int IntKind.i64 ↑block, Value.bool false, Value.bool false,
          Value.int IntKind.i64 ↑block, Value.int IntKind.i64 (↑block / 16777216),
          Value.int IntKind.u8 (↑block / 16777216), Value.int IntKind.i64 ↑block,
          Value.int IntKind.i64 (↑block / 65536), Value.int IntKind.u8 (↑block / 65536 % 256),
          Value.int IntKind.i64 ↑block, Value.int IntKind.i64 (↑block / 256), Value.int IntKind.u8 (↑block / 256 % 256),
          Value.int IntKind.i64 ↑block, Value.int IntKind.u8 (↑block % 256),
          Value.slice (some { block := w.heap.size, off := 0 }) 4 4, Value.string (numB block), Value.string pw,
          Value.string salt, Value.string (numB block), Value.string first,
          Value.int IntKind.i64 ↑rounds,
          Value.func (Fn.func 64) #[]
            #[Value.pointer (some { block := w.heap.size + 1 + 1 + 1, off := 0 }),
              Value.pointer (some { block := w.heap.size + 1 + 1 + 1 + 1, off := 0 }),
              Value.pointer (some { block := w.heap.size + 1 + 1, off := 0 })],
          .string x, undef, undef, undef, undef, undef, undef, undef, undef, undef, undef, undef, undef, undef, undef,
          undef, undef, undef, undef, undef, undef, undef, undef], defers := [] }) ?assign ?body ?done
  case hSt =>
    rintro X Y h
    exact ⟨h.size, fun k o _ e _ => (h.block k (Array.getElem?_eq_some_iff.1 e).1).trans e⟩
  case hKb =>
    intro X Y hX h
    have h1 := HSZ.out
    refine ⟨h.below (by omega) (by omega), ?_⟩
    have hlt : w.heap.size + 1 + 1 < X.heap.size := by omega
    have e : X.heap[w.heap.size + 1 + 1]? = some X.heap[w.heap.size + 1 + 1] := Array.getElem?_eq_getElem hlt
    rw [e]
    exact h.same _ _ e (.inr (by omega))
  case assign =>
    intro L x W K hK
    gi_wp2
    exact hK
  case body =>
    rintro L pre x W hI2 ⟨suf, hsuf⟩
    have hx : x.size = 32 := textsL_size pw first rounds x (by rw [hsuf]; simp)
    have hall : ∀ u ∈ pre, u.size = 32 := fun u hu => textsL_size pw first rounds u (by rw [hsuf]; simp [hu])
    have hacc : (accL pre).length = 32 := accL_length pre hall
    have HX := Aside0.mk hx
    have HACC := Aside0.mk hacc
    have HB := Aside0.mk hI2.bel
    have HQ := Aside0.mk (Stq.refl w2.heap.size w.heap.size (w.heap.size + 1 + 1) W)
    have HPA := Aside0.mk hI2.p
    have HLT : Aside0 (w.heap.size + 1 + 1 < W.heap.size) := ⟨hI2.p.lt⟩
    have hmix : Try.prog.follows .mixedOrders = true := by kernel_rfl
    rcases hI2.out with ⟨hpre, ho⟩ | ⟨g, hg, ho, ha⟩
    · have HPRE := Aside0.mk (show accL pre = List.replicate 32 0 by rw [hpre]; rfl)
      have HO := Aside0.mk ho
      have c1 : W.cell? ⟨w.heap.size + 1, 0, none⟩ = some (.slice none 0 0) := ho.cell 0 _ rfl
      have c2 : ∀ ob : Obj, (W.alloc ob).cell? ⟨w.heap.size + 1, 0, none⟩ = some (.slice none 0 0) := fun ob => (ho.alloc ob).cell 0 _ rfl
      have f2 : ∀ ob : Obj, (W.alloc ob).frozen? ⟨w.heap.size + 1, 0, none⟩ = false := fun ob => (ho.alloc ob).frozen 0
      have l1 : w.heap.size + 1 < W.heap.size := ho.lt
      have he : ∀ w : World, (binOp .eql 43 (.slice none 0 0) (.slice none 0 0)).run Try.prog w = .ok (.bool true) w := fun _ => rfl
      have h32 : ∀ W : World, (Instr.makeSlice 43 (.int .i64 32) (.int .i64 32)).run Try.prog W = .ok (.slice (some ⟨W.heap.size, 0, none⟩) 32 32) (W.alloc (.cells (madeCells #[.int .u8 0] 32) 5)) := print_make (P := Try.prog) 43 5 .u8 1 Try.underlying43 (by kernel_rfl) (by decide) 32 (by omega)
      have HG0 := Aside0.mk made32
      obtain ⟨C32, hC32⟩ : ∃ C, C = Obj.cells (madeCells #[.int .u8 0] 32) 5 (0, 0) := ⟨_, rfl⟩
      rw [← hC32] at h32 HG0
      clear ho hpre hI2 hsuf hall hacc hC32
      gi_wp2
      obtain ⟨g, hg⟩ : ∃ g, g = W.heap.size := ⟨_, rfl⟩
      rw [← hg]
      obtain ⟨w5, hw5⟩ : ∃ w5, w5 = (W.setCell ⟨w.heap.size + 1, 0, none⟩ (.slice (some ⟨g, 0, none⟩) 32 32)).alloc C32 := ⟨_, rfl⟩
      have hsc : (W.setCell ⟨w.heap.size + 1, 0, none⟩ (.slice (some ⟨g, 0, none⟩) 32 32)).heap.size = W.heap.size := by simp [World.setCell]
      have ho5 : At w5 (w.heap.size + 1) 43 [.slice (some ⟨g, 0, none⟩) 32 32] := by rw [hw5]; exact (HO.out.set 0 _).alloc C32
      have hg5 : At w5 g 5 (b8s (xorN (accL pre) x 0)) := by
        have := HG0.out (W.setCell ⟨w.heap.size + 1, 0, none⟩ (.slice (some ⟨g, 0, none⟩) 32 32))
        rw [hsc, ← hg] at this
        rw [hw5, xorN_zero, HPRE.out]; exact this
      have hp5 : At w5 (w.heap.size + 1 + 1) 9 [.string pw] := by rw [hw5]; exact (HPA.out.other _ _ (by dsimp; omega)).alloc C32
      have hb5 : Below w.heap.size w w5 := by rw [hw5]; exact (HB.out.setCell (by dsimp; omega) _).alloc (by rw [hsc]; omega) _
      have hq5 : Stq w2.heap.size w.heap.size (w.heap.size + 1 + 1) W w5 := by
        rw [hw5]
        exact (HQ.out.cell HO.out (by omega) (by omega) 0 _).go ((Below.refl _ _).alloc (Nat.le_refl _) _) (by omega) HLT.out
      have hgB : w.heap.size ≤ g := by omega
      rw [← hw5]
      clear hw5 hsc HPRE HO HG0 HPA HB HQ c1 c2 f2 l1 h32 he hg
      gi_loopg [65] 32 (fun gg s65 wr => ∃ i : Nat, i + gg = 32 ∧ s65 = .int .i64 i ∧ At wr g 5 (b8s (xorN (accL pre) x i)) ∧ At wr (w.heap.size + 1) 43 [.slice (some ⟨g, 0, none⟩) 32 32] ∧ At wr (w.heap.size + 1 + 1) 9 [.string pw] ∧ Below w.heap.size w wr ∧ Stq w2.heap.size w.heap.size (w.heap.size + 1 + 1) W wr)
      case atStart => exact ⟨0, by omega, rfl, hg5, ho5, hp5, hb5, hq5⟩
      case round =>
        obtain ⟨i, hi, rfl, hga, hoa, hpa, hba, hqa⟩ := hrel
        clear hg5 ho5 hp5 hb5 hq5
        have HG := Aside0.mk hga; have HO := Aside0.mk hoa; have HPA := Aside0.mk hpa; have HB := Aside0.mk hba; have HQ := Aside0.mk hqa
        have hgo := dNe hga hpa (by decide)
        have hgo2 := dNe hga hoa (by decide)
        clear hga hoa hpa hba hqa
        cases gk with
        | zero =>
          have hi32 : i = 32 := by omega
          subst hi32
          gi_wp2
          refine ⟨HQ.out.1, ⟨HQ.out.2.1, HQ.out.2.2⟩, HPA.out, .inr ⟨g, hgB, HO.out, ?_⟩, HB.out⟩
          rw [accL_snoc, ← xorN_all _ _ HACC.out HX.out]
          exact HG.out
        | succ gk =>
          have hi32 : (i : Int) < 32 := by omega
          have c1 := HG.out.cell8 i (by rw [xorN_length _ _ _ HACC.out HX.out]; omega)
          have f1 := HG.out.frozen i
          have c2 : wr.cell? ⟨w.heap.size + 1, 0, none⟩ = some (.slice (some ⟨g, 0, none⟩) 32 32) := HO.out.cell 0 _ rfl
          have i1 := index_text x i (by omega)
          gi_wp2
          refine wpIn_region_still_tail 9 (by kernel_rfl) (by kernel_rfl) (by kernel_rfl) ?_
          simp only [List.take_succ_cons, List.take_zero, List.drop_succ_cons, List.drop_zero]
          change wpStill _ _ wr.drew _ _ _
          iterate 9 still_step
          refine wpStill_nil ?_
          change wpList _ _ _ _ _ wr.drew
          go_wp2
          gi_wp2
          rw [u8x]
          go_roundg gk
          case measure => omega
          case rel =>
            refine ⟨i + 1, by omega, rfl, ?_, ((HO.out.drew).other _ _ (by dsimp; omega)), ((HPA.out.drew).other _ _ (by dsimp; omega)), HB.out.drew.setCell (by dsimp; omega) _, ?_⟩
            · have h2 := (HG.out.drew).set8 i (gb (xorN (accL pre) x i) i ^^^ gb x.data.toList i)
              rw [xorN_set _ _ i HACC.out HX.out (by omega)] at h2
              exact h2
            · exact (HQ.out.go (Below.refl _ wr).drew (by have := HLT.out; omega) HLT.out).cell HG.out.drew hgB hgo i _
    · have HO := Aside0.mk ho
      have c1 : W.cell? ⟨w.heap.size + 1, 0, none⟩ = some (.slice (some ⟨g, 0, none⟩) 32 32) := ho.cell 0 _ rfl
      have he : ∀ w : World, (binOp .eql 43 (.slice (some ⟨g, 0, none⟩) 32 32) (.slice none 0 0)).run Try.prog w = .ok (.bool false) w := fun _ => rfl
      have hg5 : At W g 5 (b8s (xorN (accL pre) x 0)) := by rw [xorN_zero]; exact ha
      have hp5 := HPA.out
      have hb5 := HB.out
      have hq5 := HQ.out
      have ho5 := ho
      have hgB := hg
      have HH := Aside0.mk (And.intro ho5 (And.intro hg5 (And.intro hp5 (And.intro hb5 hq5))))
      clear ho ha hg hI2 hsuf hall hacc HO HPA HB HQ ho5 hg5 hp5 hb5 hq5
      gi_wp2
      obtain ⟨ho5, hg5, hp5, hb5, hq5⟩ := HH.out
      clear HH c1 he
      gi_loopg [65] 32 (fun gg s65 wr => ∃ i : Nat, i + gg = 32 ∧ s65 = .int .i64 i ∧ At wr g 5 (b8s (xorN (accL pre) x i)) ∧ At wr (w.heap.size + 1) 43 [.slice (some ⟨g, 0, none⟩) 32 32] ∧ At wr (w.heap.size + 1 + 1) 9 [.string pw] ∧ Below w.heap.size w wr ∧ Stq w2.heap.size w.heap.size (w.heap.size + 1 + 1) W wr)
      case atStart => exact ⟨0, by omega, rfl, hg5, ho5, hp5, hb5, hq5⟩
      case round =>
        obtain ⟨i, hi, rfl, hga, hoa, hpa, hba, hqa⟩ := hrel
        clear hg5 ho5 hp5 hb5 hq5
        have HG := Aside0.mk hga; have HO := Aside0.mk hoa; have HPA := Aside0.mk hpa; have HB := Aside0.mk hba; have HQ := Aside0.mk hqa
        have hgo := dNe hga hpa (by decide)
        have hgo2 := dNe hga hoa (by decide)
        clear hga hoa hpa hba hqa
        cases gk with
        | zero =>
          have hi32 : i = 32 := by omega
          subst hi32
          gi_wp2
          refine ⟨HQ.out.1, ⟨HQ.out.2.1, HQ.out.2.2⟩, HPA.out, .inr ⟨g, hgB, HO.out, ?_⟩, HB.out⟩
          rw [accL_snoc, ← xorN_all _ _ HACC.out HX.out]
          exact HG.out
        | succ gk =>
          have hi32 : (i : Int) < 32 := by omega
          have c1 := HG.out.cell8 i (by rw [xorN_length _ _ _ HACC.out HX.out]; omega)
          have f1 := HG.out.frozen i
          have c2 : wr.cell? ⟨w.heap.size + 1, 0, none⟩ = some (.slice (some ⟨g, 0, none⟩) 32 32) := HO.out.cell 0 _ rfl
          have i1 := index_text x i (by omega)
          gi_wp2
          refine wpIn_region_still_tail 9 (by kernel_rfl) (by kernel_rfl) (by kernel_rfl) ?_
          simp only [List.take_succ_cons, List.take_zero, List.drop_succ_cons, List.drop_zero]
          change wpStill _ _ wr.drew _ _ _
          iterate 9 still_step
          refine wpStill_nil ?_
          change wpList _ _ _ _ _ wr.drew
          go_wp2
          gi_wp2
          rw [u8x]
          go_roundg gk
          case measure => omega
          case rel =>
            refine ⟨i + 1, by omega, rfl, ?_, ((HO.out.drew).other _ _ (by dsimp; omega)), ((HPA.out.drew).other _ _ (by dsimp; omega)), HB.out.drew.setCell (by dsimp; omega) _, ?_⟩
            · have h2 := (HG.out.drew).set8 i (gb (xorN (accL pre) x i) i ^^^ gb x.data.toList i)
              rw [xorN_set _ _ i HACC.out HX.out (by omega)] at h2
              exact h2
            · exact (HQ.out.go (Below.refl _ wr).drew (by have := HLT.out; omega) HLT.out).cell HG.out.drew hgB hgo i _
  case done =>
    rintro D xs W hD rfl hI2 hK
    have hpos : textsL pw first rounds ≠ [] := by
      intro e
      have := congrArg List.length e
      rw [textsL_length] at this
      have := HR.out
      simp at *
      omega
    rcases hI2.out with ⟨hpre, _⟩ | ⟨g, hg, ho, ha⟩
    · exact absurd hpre hpos
    have HKD := Aside0.mk hK
    have HDD := Aside0.mk hD
    have HB := Aside0.mk hI2.bel
    have HL := Aside0.mk (accL_length (textsL pw first rounds) (textsL_size pw first rounds))
    have c1 : W.cell? ⟨w.heap.size + 1, 0, none⟩ = some (.slice (some ⟨g, 0, none⟩) 32 32) := ho.cell 0 _ rfl
    have hconv : (convert 43 9 (.slice (some ⟨g, 0, none⟩) 32 32)).run Try.prog W = .ok (.string res) W := by
      have := run_convert_bytes_back (P := Try.prog) W 43 9 5 ⟨g, 0, none⟩ 32 (accL (textsL pw first rounds)) Try.underlying43 Try.underlying5 Try.underlying9 (fun j hj => by
        rw [Addr.add_mid, Nat.zero_add, ha.cell8 j hj]
        simp [gb, List.getD_eq_getElem?_getD, hj])
      rw [HL.out] at this
      rw [HRES.out]
      exact this
    have HLT : Aside0 (w.heap.size ≤ W.heap.size) := ⟨hI2.bel.size⟩
    clear hI2 hK hD ho ha hpos HL
    gi_wp2
    refine ⟨by simp, .inl ⟨_, _, rfl, run_takeDeferred HKD.out, ?_⟩⟩
    refine ⟨_, res_tt rfl _ _ _ _ rfl rfl, rfl, ?_⟩
    exact HB.out.trans (belowK_b (w := w) (Nat.le_refl _) W D _ _ (by have := HSZ.out; have := HDD.out; omega) HKD.out rfl rfl)
theorem stretch_arg (pw salt : ByteArray) (rounds block : Int) (w : World) (h : ¬ (pw.size ≤ 64 ∧ salt.size = 16 ∧ 1 ≤ rounds ∧ rounds ≤ 64 ∧ 1 ≤ block ∧ block ≤ 2147483647)) :
    Calls Try.prog 27 #[.string pw, .string salt, .int .i64 rounds, .int .i64 block] w fun e w' => e = .returned (.tuple #[.string ⟨#[]⟩, .int .i64 1]) ∧ w' = w := by
  by_cases g1 : (64 : Int) < (pw.size : Int)
  · clear h
    go_enter Try.func27, Try.ntmps27
    go_wp2
    exact bodyPost_ret (res_tt rfl _ _ _ _ rfl rfl) rfl ⟨rfl, rfl⟩
  by_cases g2 : (salt.size : Int) = 16
  · by_cases g3 : rounds < 1
    · clear h
      go_enter Try.func27, Try.ntmps27
      go_wp2
      exact bodyPost_ret (res_tt rfl _ _ _ _ rfl rfl) rfl ⟨rfl, rfl⟩
    by_cases g4 : 64 < rounds
    · clear h
      go_enter Try.func27, Try.ntmps27
      go_wp2
      exact bodyPost_ret (res_tt rfl _ _ _ _ rfl rfl) rfl ⟨rfl, rfl⟩
    by_cases g5 : block < 1
    · clear h
      go_enter Try.func27, Try.ntmps27
      go_wp2
      exact bodyPost_ret (res_tt rfl _ _ _ _ rfl rfl) rfl ⟨rfl, rfl⟩
    have g6 : 2147483647 < block := by omega
    clear h
    go_enter Try.func27, Try.ntmps27
    go_wp2
    exact bodyPost_ret (res_tt rfl _ _ _ _ rfl rfl) rfl ⟨rfl, rfl⟩
  · have g3 : ((salt.size : Int) != 16) = true := by simp [g2]
    clear h g2
    go_enter Try.func27, Try.ntmps27
    go_wp2
    exact bodyPost_ret (res_tt rfl _ _ _ _ rfl rfl) rfl ⟨rfl, rfl⟩
theorem stretchW_size (pw salt : ByteArray) (rounds block : Nat) : (stretchW pw salt rounds block).size = 32 := by
  show (accL _).toArray.size = 32
  rw [List.size_toArray, accL_length _ (textsL_size _ _ _)]
/-- What derive.Stretch tells. -/
def derive_Stretch.f (a0 a1 : ByteArray) (a2 a3 : Int) : Option (ByteArray × Int) :=
  if a0.size ≤ 64 ∧ a1.size = 16 ∧ 1 ≤ a2 ∧ a2 ≤ 64 ∧ 1 ≤ a3 ∧ a3 ≤ 2147483647 then some (stretchW a0 a1 a2.toNat a3.toNat, 0) else some (⟨#[]⟩, 1)
theorem derive_Stretch.calls (a0 a1 : ByteArray) (a2 a3 : Int) (r1 : ByteArray) (r2 : Int) (w : World) (h : derive_Stretch.f a0 a1 a2 a3 = some (r1, r2)) :
    Calls Try.prog 27 #[.string a0, .string a1, .int .i64 a2, .int .i64 a3] w fun e w' => e = .returned (.tuple #[.string r1, .int .i64 r2]) ∧ Below w.heap.size w w' := by
  unfold derive_Stretch.f at h
  split at h
  · rename_i hd
    have e := Option.some.inj h
    obtain ⟨h1, h2, h3, h4, h5, h6⟩ := hd
    have e2 : (a2.toNat : Int) = a2 := by omega
    have e3 : (a3.toNat : Int) = a3 := by omega
    have := stretch_ok a0 a1 a2.toNat a3.toNat w h1 h2 (by omega) (by omega) (by omega) (by omega)
    rw [e2, e3] at this
    injection e with e4 e5
    subst e4; subst e5
    exact this
  · rename_i hd
    have e := Option.some.inj h
    injection e with e4 e5
    subst e4; subst e5
    exact (stretch_arg a0 a1 a2 a3 w hd).mono fun e w' ⟨h1, h2⟩ => ⟨h1, by rw [h2]; exact Below.refl _ _⟩
end Go.Proofs.Ytdegeodegjmddaa.Given

namespace Go.Proofs.Ytdegeodegjmddaa.Given
open Go.RowKit
set_option linter.unusedVariables false
set_option linter.unusedSimpArgs false
theorem stretch_f (pw salt : ByteArray) (r b : Int) (h1 : pw.size ≤ 64) (h2 : salt.size = 16) (h3 : 1 ≤ r) (h4 : r ≤ 64) (h5 : 1 ≤ b) (h6 : b ≤ 2147483647) : derive_Stretch.f pw salt r b = some (stretchW pw salt r.toNat b.toNat, 0) := by
  unfold derive_Stretch.f
  rw [if_pos ⟨h1, h2, h3, h4, h5, h6⟩]
theorem stretch_no (pw salt : ByteArray) (r b : Int) (h : ¬ (pw.size ≤ 64 ∧ salt.size = 16 ∧ 1 ≤ r ∧ r ≤ 64 ∧ 1 ≤ b ∧ b ≤ 2147483647)) : derive_Stretch.f pw salt r b = some (⟨#[]⟩, 1) := by
  unfold derive_Stretch.f
  rw [if_neg h]
theorem hmac_f (k x : ByteArray) (hk : k.size ≤ 1000) (hx : x.size ≤ 1000) : sha_Hmac.f k x = some (hmacW k x) := by
  unfold sha_Hmac.f
  rw [if_pos ⟨by omega, by omega⟩]
theorem xorA_zero (u : ByteArray) (hu : u.size = 32) : xorA (List.replicate 32 0) u = u.data.toList := by
  have hl : u.data.toList.length = 32 := hu
  refine List.ext_getElem (by simp only [xorA, List.length_zipWith, List.length_replicate]; omega) fun i h1 h2 => ?_
  simp only [xorA, List.getElem_zipWith, List.getElem_replicate]
  simp
theorem textsL_one (pw first : ByteArray) : textsL pw first 1 = [hmacW pw first] := rfl
theorem textsL_succ (pw first : ByteArray) (n : Nat) : textsL pw first (n + 1) = textsL pw first n ++ [uN pw first (n + 1)] := by
  simp [textsL, List.range_succ]
theorem stretch_one (pw salt : ByteArray) (b : Nat) : stretchW pw salt 1 b = hmacW pw (salt ++ numB b) := by
  have h := xorA_zero (hmacW pw (salt ++ numB b)) (hmacW_size _ _)
  rw [stretchW, textsL_one]
  show (⟨(xorA (List.replicate 32 0) (hmacW pw (salt ++ numB b))).toArray⟩ : ByteArray) = _
  rw [h]
theorem stretch_succ (pw salt : ByteArray) (r b : Nat) : stretchW pw salt (r + 1) b = ⟨(xorA (stretchW pw salt r b).data.toList (uN pw (salt ++ numB b) (r + 1))).toArray⟩ := by
  rw [stretchW, textsL_succ, accL_snoc]
  rfl
theorem num_of (b : Int) (h1 : 1 ≤ b) (h2 : b ≤ 2147483647) : strOfNums [b / 16777216 % 256, b / 65536 % 256, b / 256 % 256, b % 256] = numB b.toNat := by
  have e : ∀ x y : Nat, x % 256 = y % 256 → UInt8.ofNat x = UInt8.ofNat y := fun x y h => UInt8.toNat_inj.1 (by rw [UInt8.toNat_ofNat', UInt8.toNat_ofNat']; exact h)
  have h0 : UInt8.ofNat (b / 16777216 % 256).toNat = UInt8.ofNat (b.toNat / 16777216) := e _ _ (by omega)
  have h1 : UInt8.ofNat (b / 65536 % 256).toNat = UInt8.ofNat (b.toNat / 65536) := e _ _ (by omega)
  have h2 : UInt8.ofNat (b / 256 % 256).toNat = UInt8.ofNat (b.toNat / 256) := e _ _ (by omega)
  have h3 : UInt8.ofNat (b % 256).toNat = UInt8.ofNat b.toNat := e _ _ (by omega)
  simp only [strOfNums, numB, numL4, List.map_cons, List.map_nil, h0, h1, h2, h3]
/-- A byte 0 behind a short key changes nothing. -/
theorem padK_more (k : ByteArray) (c : UInt8) (h : k.size < 64) : padK (k ++ ⟨#[0]⟩) c = padK k c := by
  have e : (k ++ ⟨#[0]⟩).data.toList = k.data.toList ++ [0] := by simp
  have es : (k ++ ⟨#[0]⟩).size = k.size + 1 := by rw [ByteArray.size_append]; rfl
  have er : List.replicate (64 - k.size) (0 : UInt8) = 0 :: List.replicate (64 - (k.size + 1)) 0 := by
    rw [← List.replicate_succ]; congr 1; omega
  rw [padK, padK, e, es, er, List.append_assoc]
  rfl
theorem hmac_more (k x : ByteArray) (h : k.size < 64) : hmacW (k ++ ⟨#[0]⟩) x = hmacW k x := by
  have es : (k ++ ⟨#[0]⟩).size = k.size + 1 := by rw [ByteArray.size_append]; rfl
  have e1 : keyW (k ++ ⟨#[0]⟩) = k ++ ⟨#[0]⟩ := by unfold keyW; rw [if_neg (by omega)]
  have e2 : keyW k = k := by unfold keyW; rw [if_neg (by omega)]
  rw [hmacW, hmacW, e1, e2, padK_more _ _ h, padK_more _ _ h]
theorem uN_more (k x : ByteArray) (h : k.size < 64) : ∀ n, uN (k ++ ⟨#[0]⟩) x n = uN k x n
  | 0 => rfl
  | n + 1 => by rw [uN, uN, uN_more k x h n, hmac_more _ _ h]
theorem stretch_more (k salt : ByteArray) (r b : Nat) (h : k.size < 64) : stretchW (k ++ ⟨#[0]⟩) salt r b = stretchW k salt r b := by
  have e : textsL (k ++ ⟨#[0]⟩) (salt ++ numB b) r = textsL k (salt ++ numB b) r := by
    unfold textsL
    exact List.map_congr_left fun i _ => uN_more _ _ h _
  rw [stretchW, stretchW, e]
end Go.Proofs.Ytdegeodegjmddaa.Given
