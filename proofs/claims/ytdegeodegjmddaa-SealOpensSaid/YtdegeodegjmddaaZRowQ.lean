/- The imports of this seat's own walks. Conditions: none. Arrays in memory: a block that is one row of cells, read, written, carried. Conditions: as each theorem names them. Slices of strings that a call has made: read, written onto, carried. Conditions: as each theorem names them. Contracts of strings.Builder's copyCheck, WriteByte and WriteString, of this translation. Conditions: a builder in a block of its own; at most 2^47 bytes. A law for 'for .. := range seq { .. }' where the body never leaves the loop early and the iterator may keep a variable of its own in memory. Conditions: what the body and the iterator's steps keep is named by the caller. A row of bytes with more behind it: what a string's bytes are converted to. Conditions: as each theorem names them. -/
import Derived.Test.YtdegeodegjmddaaProg
import Derived.Below
import Derived.Deep.Draws
import Derived.Deep.AppendLies
import Derived.Maps.AppendAt
import Derived.OwnWalk
import Derived.Laws.BytesArg
import Derived.Laws.MakeOwn
import Derived.Laws.OwnMore
import Derived.Deep.OwnRows
import Derived.Tactics
import Derived.Lib.ConvBytes
import Derived.Laws.Slices
import Derived.WalkKit
import Derived.KernelRfl
import Derived.RowKit3
import Derived.Deep.LoopGhost
import Derived.Deep.QuietTactic
import Derived.BigQuiet
import Derived.WideLaws
import Derived.Deep.DeepCutAuto
import Derived.Deep.CutBlock
import Derived.Deep.RegionHeld3
import Derived.Laws.Rows
import Derived.Lib.AppendStr
import Derived.ArgAppend
import Derived.Laws.IdiomCopy
import Derived.OrdersHeld
import Derived.Laws.BitsLemmas
import Derived.RowKit
import Derived.Test.YtdegeodegjmddaaZWQ
import Derived.WalkSpells
import Derived.Deep.MidRow
import Derived.Deep.WholeRow
import Derived.Laws.Tables
import Derived.Laws.BitsAllLaws
import Derived.Deep.DeepMust
import Derived.StillTailTactics
import Derived.Laws.CopyOwn
import Derived.Laws.CopyRow
import Derived.Shelf.Strings.BuilderK
import Derived.RangeFuncNested
import Derived.RangeFuncBound
import Derived.RangeFuncCalls
import Derived.RangeFuncLeaves
import Derived.Shelf.Abstract
import Derived.OwnWalkIn
import Derived.TacticsInMore
import Derived.LoopNIn
import Derived.LoopIn
import Derived.Lib.AtoiErrMem
set_option linter.unusedVariables false
set_option linter.unusedSimpArgs false


namespace Go.Proofs.Ytdegeodegjmddaa.Row
open Go Go.RowKit
set_option maxRecDepth 100000
set_option linter.unusedVariables false
set_option linter.unusedSimpArgs false

theorem wrap64_of_bounds {n : Int} (h1 : -9223372036854775808 ≤ n) (h2 : n < 9223372036854775808) : wrap64 n = n := by
  unfold wrap64; omega
theorem wrapi_of_bounds {n : Int} (h1 : -9223372036854775808 ≤ n) (h2 : n < 9223372036854775808) : IntKind.i64.wrap n = n := by
  rw [IntKind.wrap_i64]; omega
/-- Block g is one row of the cells cs, and may be written. -/
structure At (w : World) (g : Nat) (t : TypeId) (cs : List Value) : Prop where
  heap : w.heap[g]? = some (.cells cs.toArray t (0, 0))
/-- a byte by its place -/
def gb (l : List UInt8) (j : Nat) : UInt8 := l.getD j 0
def b8 (b : UInt8) : Value := .int .u8 (b.toNat : Int)
def u32 (b : UInt32) : Value := .int .u32 (b.toNat : Int)
def b8s (l : List UInt8) : List Value := l.map b8
@[simp] theorem b8s_length (l : List UInt8) : (b8s l).length = l.length := by simp [b8s]
theorem b8s_get (l : List UInt8) (j : Nat) (h : j < l.length) : (b8s l)[j]? = some (.int .u8 ((gb l j).toNat : Int)) := by
  simp [b8s, b8, gb, h, List.getD_eq_getElem?_getD]
theorem ext8 {l m : List UInt8} (h : l.length = m.length) (hj : ∀ j, j < l.length → gb l j = gb m j) : l = m := by
  apply List.ext_getElem h
  intro i h1 h2
  have := hj i h1
  simpa [gb, List.getD_eq_getElem?_getD, h1, h2] using this
theorem u8x (a b : UInt8) : bits .xor .u8 (a.toNat : Int) (b.toNat : Int) = ((a ^^^ b).toNat : Int) := by
  rw [u8_xor_nat _ _ a.toNat_lt b.toNat_lt, UInt8.toNat_xor]
theorem b8s_set (l : List UInt8) (j : Nat) (b : UInt8) : (b8s l).set j (.int .u8 (b.toNat : Int)) = b8s (l.set j b) := by
  simp [b8s, b8, List.map_set]

namespace At
variable {w w' : World} {g : Nat} {t : TypeId} {cs : List Value}
theorem lt (h : At w g t cs) : g < w.heap.size := (Array.getElem?_eq_some_iff.1 h.heap).1
theorem cell (h : At w g t cs) (j : Nat) (v : Value) (hj : cs[j]? = some v) : w.cell? ⟨g, j, none⟩ = some v := by
  rw [cell_of_row w g j _ t _ h.heap]; simpa using hj
theorem cell8 {l : List UInt8} (h : At w g t (b8s l)) (j : Nat) (hj : j < l.length) : w.cell? ⟨g, j, none⟩ = some (.int .u8 ((gb l j).toNat : Int)) :=
  h.cell j _ (b8s_get l j hj)
theorem frozen (h : At w g t cs) (j : Nat) : w.frozen? ⟨g, j, none⟩ = false := frozen_of_row w g j _ t h.heap
theorem set (h : At w g t cs) (j : Nat) (v : Value) : At (w.setCell ⟨g, j, none⟩ v) g t (cs.set j v) := by
  constructor
  rw [heap_setCell_same w g j _ t v h.heap]
  simp
theorem set8 {l : List UInt8} (h : At w g t (b8s l)) (j : Nat) (b : UInt8) : At (w.setCell ⟨g, j, none⟩ (.int .u8 (b.toNat : Int))) g t (b8s (l.set j b)) := by
  rw [← b8s_set]; exact h.set j _
theorem other (h : At w g t cs) (a : Addr) (v : Value) (ha : g ≠ a.block) : At (w.setCell a v) g t cs := ⟨(heap_setCell_other w a g v ha).trans h.heap⟩
theorem alloc (h : At w g t cs) (o : Obj) : At (w.alloc o) g t cs := ⟨(Below.heap_alloc w o g h.lt).trans h.heap⟩
theorem new (w : World) (cs : List Value) (t : TypeId) : At (w.alloc (.cells cs.toArray t (0, 0))) w.heap.size t cs := ⟨heap_alloc_new w _⟩
theorem newAt {w : World} {cs : List Value} {t : TypeId} {g : Nat} (hg : g = w.heap.size) : At (w.alloc (.cells cs.toArray t (0, 0))) g t cs := by rw [hg]; exact new w cs t
theorem below {B : Nat} (h : At w g t cs) (hb : Below B w w') (hg : g < B) : At w' g t cs := ⟨(hb.block g hg).trans h.heap⟩
theorem drewSet8 {l : List UInt8} (h : At w g t (b8s l)) (j : Nat) (b : UInt8) : At (w.setCell ⟨g, j, none⟩ (.int .u8 (b.toNat : Int))).drew g t (b8s (l.set j b)) := ⟨(h.set8 j b).heap⟩
theorem drew (h : At w g t cs) : At w.drew g t cs := ⟨h.heap⟩
theorem setRow (h : At w g t cs) (cs' : List Value) : At (w.setRow g cs'.toArray) g t cs' := ⟨setRow_heap w g _ _ t _ h.heap⟩
theorem setRow_other (h : At w g t cs) (k : Nat) (cs' : List Value) (hk : g ≠ k) : At (w.setRow k cs'.toArray) g t cs := ⟨(Go.setRow_other w k g _ hk).trans h.heap⟩
theorem row_below {B : Nat} {w0 : World} (hb : Below B w0 w) (hg : B ≤ g) (cs' : Array Value) : Below B w0 (w.setRow g cs') :=
  hb.trans ⟨rfl, rfl, rfl, by simp, fun k hk => Go.setRow_other w g k cs' (by omega)⟩
section
variable {P : Program} {ops : Array Oper} {rest : List Oper} {o : Oper} {a : Act} {Q : Exit → Act → World → Prop}
theorem load (h : At w g t cs) (ty : TypeId) (x : Operand) (hgd : o.guard = none) (ho : o.op = .load ty x) (hx : a.eval x = .pointer (some ⟨g, 0, none⟩)) (d : TypeDesc)
    (hu : P.underlying ty = some d) (hd : (match d with | .struct _ | .array _ _ => true | _ => false) = true) (hi : (P.info? ty).map (·.size) = some cs.length)
    (k : wpList P ops Q rest (a.put o.dst (.agg cs.toArray)) w) : wpList P ops Q (o :: rest) a w :=
  wpList_load_row hgd ty x ho g hx t _ _ d h.heap hu hd (by simpa using hi) k
theorem loadMid {l : List UInt8} (h : At w g t (b8s l)) (ty : TypeId) (x : Operand) (off n : Nat) (hn : off + n ≤ l.length) (hgd : o.guard = none) (ho : o.op = .load ty x) (hx : a.eval x = .pointer (some ⟨g, off, none⟩)) (d : TypeDesc)
    (hu : P.underlying ty = some d) (hd : d.isRow = true) (hi : (P.info? ty).map (·.size) = some n)
    (k : wpList P ops Q rest (a.put o.dst (.agg (b8s ((l.drop off).take n)).toArray)) w) : wpList P ops Q (o :: rest) a w := by
  have hlen : ((l.drop off).take n).length = n := by rw [List.length_take, List.length_drop]; omega
  refine wpList_load_mid hgd ty x ho g off hx (b8s ((l.drop off).take n)) d (fun j v hv => ?_) hu hd (by rw [b8s_length, hlen]; exact hi) k
  have hj : j < n := by
    have := (List.getElem?_eq_some_iff.1 hv).1
    rwa [b8s_length, hlen] at this
  rw [h.cell (off + j) v]
  rw [← hv]
  simp [b8s, List.getElem?_take, hj, List.getElem?_drop]
theorem store (h : At w g t cs) (ty : TypeId) (x y : Operand) (cs' : List Value) (hgd : o.guard = none) (ho : o.op = .store ty x y) (hx : a.eval x = .pointer (some ⟨g, 0, none⟩)) (hy : a.eval y = .agg cs'.toArray)
    (hl : cs.length = cs'.length) (hi : (P.info? ty).map (·.size) = some cs'.length) (h1 : ∀ v ∈ cs', v.oneCell' = true)
    (k : wpList P ops Q rest (a.put o.dst undef) (w.setRow g cs'.toArray)) : wpList P ops Q (o :: rest) a w :=
  wpList_store_row hgd ty x y ho g _ hx hy t _ h.heap (by simpa using hi) (by simpa using hl) (all_oneCell_toArray h1) k
theorem stillLoad {l : List UInt8} {R : Act → Prop} (h : At w g t (b8s l)) (ty : TypeId) (x : Operand) (off n : Nat) (hn : off + n ≤ l.length) (hgd : o.guard = none) (ho : o.op = .load ty x) (hx : a.eval x = .pointer (some ⟨g, off, none⟩)) (d : TypeDesc)
    (hu : P.underlying ty = some d) (hd : d.isRow = true) (hi : (P.info? ty).map (·.size) = some n)
    (k : wpStill P ops w R rest (a.put o.dst (.agg (b8s ((l.drop off).take n)).toArray))) : wpStill P ops w R (o :: rest) a := by
  have hlen : ((l.drop off).take n).length = n := by rw [List.length_take, List.length_drop]; omega
  have hr : w.rangeAt g off (b8s ((l.drop off).take n)) := fun j v hv => by
    have hj : j < n := by
      have := (List.getElem?_eq_some_iff.1 hv).1
      rwa [b8s_length, hlen] at this
    rw [h.cell (off + j) v]
    rw [← hv]
    simp [b8s, List.getElem?_take, hj, List.getElem?_drop]
  refine wpStill_step fun K hK => ?_
  rw [if_pos (by simp [Region.wanted, hgd])]
  unfold Oper.still execOp
  simp only [ho, hx, Instr.loadAt, Instr.sureAddr, Sem.run_bind, Sem.run_pure, Result.andThen_ok, run_loadVar_mid w g off ty _ d hr hu hd (by rw [b8s_length, hlen]; exact hi)]
  exact ⟨rfl, hK _ k⟩
theorem stillLoad0 {l : List UInt8} {R : Act → Prop} (h : At w g t (b8s l)) (ty : TypeId) (x : Operand) (hgd : o.guard = none) (ho : o.op = .load ty x) (hx : a.eval x = .pointer (some ⟨g, 0, none⟩)) (d : TypeDesc)
    (hu : P.underlying ty = some d) (hd : d.isRow = true) (hi : (P.info? ty).map (·.size) = some l.length)
    (k : wpStill P ops w R rest (a.put o.dst (.agg (b8s l).toArray))) : wpStill P ops w R (o :: rest) a :=
  h.stillLoad ty x 0 l.length (by omega) hgd ho hx d hu hd hi (by rw [List.drop_zero, List.take_length]; exact k)
/-- One operation alone may come up next, in a region that draws its order. -/
theorem anyH_one {i : Nat} {md : Region.Mode} {S : World → Prop} {fuel : Nat} {listed : Array Bool} {R : Exit → Act → World → Prop} (hr : Region.ready md ops listed = [i]) (ho : ops[i]? = some o)
    (h : if Region.wanted o (yielded ops a.tmps) = true then Oper.wp P o a w (fun a' w' => S w' ∧ wpAnyH P md ops R S fuel (listed.setIfInBounds i true) a' w') R else (S w ∧ wpAnyH P md ops R S fuel (listed.setIfInBounds i true) (a.put o.dst undef) w)) :
    wpAnyH P md ops R S (fuel + 1) listed a w := by
  refine wpAnyH_all hr (by simp) fun j hj => ?_
  obtain rfl : j = i := by simpa using hj
  unfold wpOp
  simp only [ho]
  by_cases hw : Region.wanted o (yielded ops a.tmps) = true
  · rw [if_pos hw] at h ⊢
    exact .inl h
  · rw [if_neg hw] at h ⊢
    exact h
/-- A whole row is read, by itself. -/
theorem takeN {i : Nat} {md : Region.Mode} {S : World → Prop} {fuel : Nat} {listed : Array Bool} {R : Exit → Act → World → Prop} (N : Option Tmp) (v : Value) (hi : ops[i]? = some o) (hN : o.dst = N)
    (hs : Region.noSelect ops = true) (hf : Region.free md ops listed i = true) (hr : (Region.ready md ops listed).contains i = true)
    (hQ : ∀ c a w, R (.panic c) (a.put N v) w → R (.panic c) a w) (hy : YieldsIf P ops S o v a) (hS : S w)
    (h : wpAnyH P md ops R S fuel (listed.setIfInBounds i true) (a.put N v) w) : wpAnyH P md ops R S (fuel + 1) listed a w := by
  subst hN
  exact wpAnyH_take hi hs hf hr hQ hy hS h
theorem wpLoad {K : Act → World → Prop} {R : Exit → Act → World → Prop} {E : Prop} (N : Option Tmp) (hN : o.dst = N) (h : At w g t cs) (ty : TypeId) (x : Operand) (hgd : o.guard = none) (ho : o.op = .load ty x) (hx : a.eval x = .pointer (some ⟨g, 0, none⟩)) (d : TypeDesc)
    (hu : P.underlying ty = some d) (hd : (match d with | .struct _ | .array _ _ => true | _ => false) = true) (hi : (P.info? ty).map (·.size) = some cs.length)
    (k : K (a.put N (.agg cs.toArray)) w) : if Region.wanted o (yielded ops a.tmps) = true then Oper.wp P o a w K R else E := by
  subst hN
  rw [if_pos (by simp [Region.wanted, hgd])]
  exact wp_load_row ty x ho g hx t _ _ d h.heap hu hd (by simpa using hi) k
/-- A whole row is written, by itself. -/
theorem wpStore {K : Act → World → Prop} {R : Exit → Act → World → Prop} {E : Prop} (hN : o.dst = none) (h : At w g t cs) (ty : TypeId) (x y : Operand) (cs' : List Value) (hgd : o.guard = none) (ho : o.op = .store ty x y) (hx : a.eval x = .pointer (some ⟨g, 0, none⟩)) (hy : a.eval y = .agg cs'.toArray)
    (hl : cs.length = cs'.length) (hi : (P.info? ty).map (·.size) = some cs'.length) (h1 : ∀ v ∈ cs', v.oneCell' = true)
    (k : K a (w.setRow g cs'.toArray)) : if Region.wanted o (yielded ops a.tmps) = true then Oper.wp P o a w K R else E := by
  have k : K (a.put o.dst undef) (w.setRow g cs'.toArray) := by rw [hN]; exact k
  rw [if_pos (by simp [Region.wanted, hgd])]
  exact wp_store_row ty x y ho g _ hx hy t _ h.heap (by simpa using hi) (by simpa using hl) (all_oneCell_toArray h1) k
theorem yieldsMid {l : List UInt8} {S : World → Prop} (hS : ∀ w, S w → At w g t (b8s l)) (ty : TypeId) (x : Operand) (off n : Nat) (hn : off + n ≤ l.length) (hgd : o.guard = none) (ho : o.op = .load ty x) (hx : a.eval x = .pointer (some ⟨g, off, none⟩)) (d : TypeDesc)
    (hu : P.underlying ty = some d) (hd : d.isRow = true) (hi : (P.info? ty).map (·.size) = some n) : YieldsIf P ops S o (.agg (b8s ((l.drop off).take n)).toArray) a := by
  have hlen : ((l.drop off).take n).length = n := by rw [List.length_take, List.length_drop]; omega
  refine yieldsIf_load_mid (by simp [Region.wanted, hgd]) ty x ho g off hx (b8s ((l.drop off).take n)) d (fun w hw j v hv => ?_) hu hd (by rw [b8s_length, hlen]; exact hi)
  have hj : j < n := by
    have := (List.getElem?_eq_some_iff.1 hv).1
    rwa [b8s_length, hlen] at this
  rw [(hS w hw).cell (off + j) v]
  rw [← hv]
  simp [b8s, List.getElem?_take, hj, List.getElem?_drop]
theorem ret {fn : Func} {p : Tmp} {ty : TypeId} (h : At w g t cs) (hr : fn.results = #[.cell p ty]) (tmps : Array Value) (d : TypeDesc)
    (hp : tmps.getD p undef = .pointer (some ⟨g, 0, none⟩)) (hu : P.underlying ty = some d) (hd : (match d with | .struct _ | .array _ _ => true | _ => false) = true) (hi : (P.info? ty).map (·.size) = some cs.length) :
    (results fn tmps).run P w = .ok (.agg cs.toArray) w :=
  results_cell_row hr tmps w g t _ _ d hp h.heap hu hd (by simpa using hi)
end
/-- A list with some of its elements overwritten by others. -/
def spl {α : Type} (l : List α) (o : Nat) (c : List α) : List α := l.take o ++ c ++ l.drop (o + c.length)
theorem b8s_spl (l : List UInt8) (o : Nat) (c : List UInt8) : spl (b8s l) o (b8s c) = b8s (spl l o c) := by
  simp [spl, b8s, List.map_append, List.map_take, List.map_drop]
theorem spl_length {α : Type} (l : List α) (o : Nat) (c : List α) (h : o + c.length ≤ l.length) : (spl l o c).length = l.length := by
  rw [spl, List.length_append, List.length_append, List.length_take, List.length_drop]; omega
theorem one8 (l : List UInt8) : ∀ v ∈ b8s l, v.oneCell' = true := by
  intro v hv
  obtain ⟨b, _, rfl⟩ := List.mem_map.1 hv
  rfl
section
variable {P : Program}
theorem run_copy_bytes (w : World) (dT sT ty elem : TypeId) (g o dLen dCap : Nat) (s : ByteArray) (l : List UInt8) (t : TypeId)
    (hu : P.underlying dT = some (.slice elem)) (hs : (P.info? elem).map (·.size) = some 1) (h : At w g t (b8s l)) (hfit : o + Nat.min s.size dLen ≤ l.length) :
    (Builtin.copy_ #[dT, sT] ty #[.slice (some ⟨g, o, none⟩) dLen dCap, .string s]).run P w =
      .ok (goInt (Nat.min s.size dLen)) (w.setRow g (b8s (spl l o (s.data.toList.take dLen))).toArray) := by
  have hsz : s.size = s.data.toList.length := Array.length_toList.symm
  have hlen : (b8s (s.data.toList.take dLen)).length = Nat.min s.size dLen := by
    rw [b8s_length, List.length_take, hsz]
    exact Nat.min_comm _ _
  have hst := run_storeCells_at P g o t (b8s (s.data.toList.take dLen)) 0 (b8s l).toArray w h.heap (by rw [hlen]; simpa using hfit) (one8 _)
  have htk : (List.take (Nat.min s.size dLen) s.data.toList).map (fun b : UInt8 => Value.int IntKind.u8 (b.toNat : Int)) = b8s (s.data.toList.take dLen) := by
    unfold b8s b8
    congr 1
    rcases Nat.le_total s.size dLen with h1 | h1
    · rw [show Nat.min s.size dLen = s.size from Nat.min_eq_left h1, List.take_of_length_le (by omega), List.take_of_length_le (by omega)]
    · rw [show Nat.min s.size dLen = dLen from Nat.min_eq_right h1]
  rw [hlen] at hst
  simp only [Nat.add_zero] at hst
  have e : ((b8s l).toArray.toList.take o ++ b8s (s.data.toList.take dLen) ++ (b8s l).toArray.toList.drop (o + Nat.min s.size dLen)) = b8s (spl l o (s.data.toList.take dLen)) := by
    rw [← b8s_spl]
    simp only [spl, hlen]
  rw [e] at hst
  cases hq : P.info? elem with
  | none => simp [hq] at hs
  | some i =>
    simp only [hq, Option.map_some, Option.some.injEq] at hs
    simp [Builtin.copy_, run_underlying hu, Builtin.lenOf, Builtin.firstCells, sizeOf, typeInfo, hq]
    rw [List.map_take] at htk
    rw [htk, hst]
    simp [Result.andThen]
variable {ops : Array Oper} {rest : List Oper} {o : Oper} {a : Act} {Q : Exit → Act → World → Prop}
/-- copy(d, s), s a string, d within the row. -/
theorem copyStr {l : List UInt8} (h : At w g t (b8s l)) (d x : Operand) (dT sT elem : TypeId) (off dLen dCap : Nat) (s : ByteArray) (hgd : o.guard = none)
    (ho : o.op = .call { callee := .builtin .copy, args := #[d, x], argTypes := #[dT, sT] }) (hd : a.eval d = .slice (some ⟨g, off, none⟩) dLen dCap) (hx : a.eval x = .string s)
    (hu : P.underlying dT = some (.slice elem)) (hsz : (P.info? elem).map (·.size) = some 1) (hfit : off + Nat.min s.size dLen ≤ l.length)
    (k : wpList P ops Q rest (a.put o.dst (goInt (Nat.min s.size dLen))) (w.setRow g (b8s (spl l off (s.data.toList.take dLen))).toArray)) : wpList P ops Q (o :: rest) a w := by
  refine wpList_plain hgd fun K hK => ?_
  have hrun := run_copy_bytes (P := P) w dT sT o.type elem g off dLen dCap s l t hu hsz h hfit
  unfold Oper.wp
  simp [execOp, ho, resolve, invoke, builtin, hd, hx, hrun, Result.andThen]
  exact hK _ _ k
/-- copy(d, x), x a whole row that fits, d within the row. -/
theorem copyRow {l m : List UInt8} (h : At w g t (b8s l)) {g2 : Nat} {t2 : TypeId} (h2 : At w g2 t2 (b8s m)) (d x : Operand) (dT sT elem : TypeId) (off dLen dCap sCap : Nat) (hgd : o.guard = none)
    (ho : o.op = .call { callee := .builtin .copy, args := #[d, x], argTypes := #[dT, sT] }) (hd : a.eval d = .slice (some ⟨g, off, none⟩) dLen dCap) (hx : a.eval x = .slice (some ⟨g2, 0, none⟩) m.length sCap)
    (hu : P.underlying dT = some (.slice elem)) (hsz : (P.info? elem).map (·.size) = some 1) (hle : m.length ≤ dLen) (hfit : off + m.length ≤ l.length)
    (k : wpList P ops Q rest (a.put o.dst (goInt m.length)) (w.setRow g (b8s (spl l off m)).toArray)) : wpList P ops Q (o :: rest) a w := by
  refine wpList_copy_own hgd d x dT sT ho elem hu hsz g off dLen dCap ⟨g2, 0, none⟩ m.length sCap hd hx (b8s l).toArray t h.heap (b8s m) (by rw [b8s_length]; exact (Nat.min_eq_left hle).symm) ?_ (by simpa using hfit) (one8 m) ?_
  · intro j v hv
    have : (⟨g2, 0, none⟩ : Addr).add j = ⟨g2, j, none⟩ := by rw [Addr.add_mid, Nat.zero_add]
    rw [this]
    exact h2.cell j v hv
  · rw [b8s_length]
    have e : ((b8s l).toArray.toList.take off ++ (b8s m ++ (b8s l).toArray.toList.drop (off + m.length))) = b8s (spl l off m) := by
      rw [← b8s_spl]
      simp only [spl, b8s_length, List.append_assoc]
    rw [e]
    exact k
end
end At
end Go.Proofs.Ytdegeodegjmddaa.Row

namespace Go.Proofs.Ytdegeodegjmddaa.Row
open Go Go.RowKit
set_option maxRecDepth 100000
set_option linter.unusedVariables false
set_option linter.unusedSimpArgs false

/-- v is a slice of the call's own (its row lies in a block from B on) that holds these strings. -/
def Strs (B : Nat) (v : Value) (l : List ByteArray) (w : World) : Prop := w.ownsRow B 9 1 v l.length (l.map Value.string)
namespace Strs
variable {B : Nat} {v : Value} {l : List ByteArray} {w w' : World}
theorem nil (w : World) (B : Nat) : Strs B (.slice none 0 0) [] w := World.ownsRow_nil w B _ 1
theorem lit (w : World) (B : Nat) (s : ByteArray) (hb : B ≤ w.heap.size) : Strs B (.slice (some ⟨w.heap.size, 0, none⟩) 1 1) [s] (w.alloc (.cells #[.string s] 9 (0, 0))) :=
  World.ownsRow_lit w #[.string s] 1 hb (by decide) rfl
theorem lt (h : Strs B v l w) : ∀ k, v.ownBlock = some k → B ≤ k ∧ k < w.heap.size := World.ownsRow.lt h
theorem below {C : Nat} (h : Strs B v l w) (hb : Below C w w') (hC : w.heap.size ≤ C) : Strs B v l w' := by
  refine World.ownsRow.kept (row := none) h ⟨hb.os, hb.tape, hb.output, hb.size, fun k hk _ => hb.block k (by omega)⟩ ?_
  cases hv : v.ownBlock with
  | none => exact .inl rfl
  | some k => exact .inr (by simp)
theorem alloc (h : Strs B v l w) (o : Obj) : Strs B v l (w.alloc o) := World.ownsRow.alloc h o
theorem form (h : Strs B v l w) (h0 : 0 < l.length) : ∃ g cap, v = .slice (some ⟨g, 0, none⟩) l.length cap := by
  rcases h.2 with ⟨_, h2⟩ | ⟨g, cap, cur, rfl, _⟩
  · omega
  · exact ⟨g, cap, rfl⟩
theorem formN (h : Strs B v l w) {n : Nat} (hn : l.length = n) (h0 : 0 < n) : ∃ g cap, v = .slice (some ⟨g, 0, none⟩) n cap := by
  subst hn; exact h.form h0
theorem forms (h : Strs B v l w) : ∃ a cap, v = .slice a l.length cap := by
  rcases h.2 with ⟨rfl, h2⟩ | ⟨g, cap, cur, rfl, _⟩
  · exact ⟨none, 0, by rw [h2]⟩
  · exact ⟨_, cap, rfl⟩
theorem size_lt (h : Strs B v l w) (h0 : 0 < l.length) {g : Nat} (hv : v.ownBlock = some g) : g < w.heap.size := (h.lt g hv).2
theorem cell {n g cap : Nat} (h : Strs B (.slice (some ⟨g, 0, none⟩) n cap) l w) (i : Nat) (s : ByteArray) (hs : l[i]? = some s) : w.cell? ⟨g, i, none⟩ = some (.string s) := by
  have hn : n = l.length := by
    rcases h.2 with ⟨h1, _⟩ | ⟨_, _, _, h1, _⟩
    · simp at h1
    · simp at h1; exact h1.2.1
  subst hn
  rw [World.ownsRow.cellAt h i (by rw [Nat.mul_one]; exact (List.getElem?_eq_some_iff.1 hs).1)]
  simp [hs]
theorem append {s : ByteArray} (h : w.ownsRow B 9 1 v (l.length + 1) (l.map Value.string ++ [.string s])) : Strs B v (l ++ [s]) w := by
  show w.ownsRow B 9 1 v (l ++ [s]).length ((l ++ [s]).map Value.string)
  rw [List.length_append, List.map_append]
  exact h
end Strs
theorem At.grown {B : Nat} {w w' : World} {g : Nat} {t : TypeId} {cs : List Value} {v : Value} {n : Nat} {xs : List Value} (h : At w g t cs) (hown : w.ownsRow B 9 1 v n xs) (ht : t ≠ 9) (hg : w.grownBy w' v.ownBlock) : At w' g t cs := by
  refine ⟨(hg.block g h.lt (fun e => ?_)).trans h.heap⟩
  rcases hown.2 with ⟨rfl, _⟩ | ⟨k, cap, cur, rfl, _, hk, _⟩
  · simp [Value.ownBlock] at e
  · simp only [Value.ownBlock, Option.some.injEq] at e
    subst e
    rw [h.heap] at hk
    simp only [Option.some.injEq, Obj.cells.injEq] at hk
    exact ht hk.2.1
theorem strInfo : ∃ i z, Try.prog.info? 9 = some i ∧ i.zero = some z ∧ i.size = 1 ∧ i.bytes = 16 ∧ z.cells.size = 1 := by
  have h : ((Try.prog.info? 9).bind fun i => i.zero.bind fun z => if i.size = 1 ∧ i.bytes = 16 ∧ z.cells.size = 1 then some () else none) = some () := by kernel_rfl
  cases hi : Try.prog.info? 9 with
  | none => rw [hi] at h; cases h
  | some i =>
    rw [hi] at h
    cases hz : i.zero with
    | none => simp [hz] at h
    | some z =>
      refine ⟨i, z, rfl, hz, ?_⟩
      simp only [Option.bind_some, hz] at h
      split at h
      · assumption
      · cases h
end Go.Proofs.Ytdegeodegjmddaa.Row

namespace Go.Proofs.Ytdegeodegjmddaa.Row
open Go Go.RowKit
set_option maxRecDepth 100000
set_option linter.unusedVariables false
set_option linter.unusedSimpArgs false
/-- A builder in block b, which holds these bytes. -/
def Bld (B b : Nat) (l : List UInt8) (w : World) : Prop := Lib.IsBuilderF 54 5 B b (Lib.byteCells l) w
theorem bldSize : (Try.prog.info? 54).map (·.size) = some 2 := by kernel_rfl
theorem bldLies : liesAt Try.prog Try.prog.depth 54 (2 / Try.prog.cellsOf 54) 0 54 1 = true := by kernel_rfl
theorem bldNe : (54 : Nat) ≠ 5 := by decide
theorem byteInfo : ∃ i, Try.prog.info? 5 = some i ∧ i.zero = some (.int .u8 0) ∧ i.size = 1 ∧ i.bytes = 1 := info_parts (by kernel_rfl)
theorem byteCells_app (l m : List UInt8) : Lib.byteCells l ++ Lib.byteCells m = Lib.byteCells (l ++ m) := by simp [Lib.byteCells]
set_option maxHeartbeats 1000000 in
set_option maxRecDepth 100000 in
theorem check_used (b : Nat) (w : World) (h0 : w.cell? ⟨b, 0, none⟩ = some (.pointer (some ⟨b, 0, none⟩))) :
    Calls Try.prog 57 #[.pointer (some ⟨b, 0, none⟩)] w fun e w' => e = .returned (.tuple #[]) ∧ w' = w := by
  obtain ⟨j, hj, _⟩ := Option.map_eq_some_iff.1 bldSize
  go_enter Try.func57, Try.ntmps57
  go_wp2
  rw [Lib.run_neq_ptr_same w _ Try.underlying52 hj]
  go_wp2
  go_end0
  exact ⟨rfl, rfl⟩
set_option maxHeartbeats 1000000 in
set_option maxRecDepth 100000 in
theorem check_fresh (b : Nat) (w : World) (h0 : w.cell? ⟨b, 0, none⟩ = some (.pointer none)) (hsh : w.shape? b = some (54, 2)) (hfz : w.frozen? ⟨b, 0, none⟩ = false) :
    Calls Try.prog 57 #[.pointer (some ⟨b, 0, none⟩)] w fun e w' => e = .returned (.tuple #[]) ∧ w' = w.setCell ⟨b, 0, none⟩ (.pointer (some ⟨b, 0, none⟩)) := by
  obtain ⟨j, hj, hjs⟩ := Option.map_eq_some_iff.1 bldSize
  go_enter Try.func57, Try.ntmps57
  go_wp2
  rw [Lib.run_to_unsafe w ⟨b, 0, none⟩ Try.underlying52 Try.underlying91 hj (by rw [hjs]; decide) hsh (Nat.zero_lt_succ 1)]
  simp only [Result.andThen]
  rw [Oper.upon_value]
  go_wp2
  rw [run_callFunc_extern Try.func68 (by kernel_rfl) (by kernel_rfl) (by kernel_rfl) (e := Extern.AbiNoEscape.same) (by kernel_rfl)]
  rw [Lib.run_noEscape]
  simp only [Result.andThen]
  rw [Oper.upon_value]
  go_wp2
  rw [Lib.run_from_unsafe w ⟨b, 0, none⟩ Try.underlying91 Try.underlying52 hj hsh bldLies]
  simp only [Result.andThen]
  rw [Oper.upon_value]
  go_wp2
  go_end0
  exact ⟨rfl, rfl⟩
theorem check_any (B b : Nat) (bs : List Value) (w : World) (h : Lib.IsBuilderF 54 5 B b bs w) :
    Calls Try.prog 57 #[.pointer (some ⟨b, 0, none⟩)] w fun e w' => e = .returned (.tuple #[]) ∧ (Lib.BuilderAtF 54 5 B b (.pointer (some ⟨b, 0, none⟩)) bs w' ∧ Below B w w' ∧ Lib.OthersKept 5 (some b) w w') := by
  rcases h with h | h
  · refine (check_fresh b w h.cell0 h.shape h.frozen0).mono ?_
    rintro e w' ⟨rfl, rfl⟩
    exact ⟨rfl, h.used _, (Below.refl B w).setCell (p := ⟨b, 0, none⟩) h.1 _, (Lib.OthersKept.refl _ _ w).setCell ⟨b, 0, none⟩ rfl _⟩
  · refine (check_used b w h.cell0).mono ?_
    rintro e w' ⟨rfl, rfl⟩
    exact ⟨rfl, h, Below.refl B _, Lib.OthersKept.refl _ _ _⟩
theorem bld_lt {B b : Nat} {p : Value} {bs : List Value} {w : World} (h : Lib.BuilderAtF 54 5 B b p bs w) : b < w.heap.size := by
  obtain ⟨_, v, hb, _⟩ := h
  exact (Array.getElem?_eq_some_iff.1 hb).1
set_option maxHeartbeats 2000000 in
set_option maxRecDepth 100000 in
theorem writeByte (B b : Nat) (l : List UInt8) (c : UInt8) (w : World) (h : Bld B b l w) (hlen : l.length + 1 ≤ 140737488355328) (hBw : B ≤ w.heap.size) :
    Calls Try.prog 48 #[.pointer (some ⟨b, 0, none⟩), .int .u8 c.toNat] w fun e w' => e = .returned .nilIface ∧ Bld B b (l ++ [c]) w' ∧ Below B w w' ∧ Lib.OthersKept 5 (some b) w w' := by
  obtain ⟨i0, hi, hz0, hz1, hz2⟩ := byteInfo
  have hlb : (Lib.byteCells l).length = l.length := Lib.byteCells_length l
  go_enter Try.func48, Try.ntmps48
  go_wp2_with (go_at_call 57; refine (check_any B b _ _ h).mono ?_)
  rintro e w1 ⟨rfl, h1, hb1, hk1⟩
  have hlt := bld_lt h1
  obtain ⟨hB, v, hbk, hown, hne⟩ := h1
  have c0 : w1.cell? ⟨b, 0, none⟩ = some (.pointer (some ⟨b, 0, none⟩)) := by rw [Lib.cell_of_heap hbk]; rfl
  have c1 : w1.cell? ⟨b, 1, none⟩ = some v := by rw [Lib.cell_of_heap hbk]; rfl
  go_wp2_with (at_builtin; refine wpList_append_ownF _ rfl _ _ 43 rfl B 5 i0 (.int .u8 0) 1 1 Try.underlying43 hi hz0 hz1 hz2 rfl (by decide) _ _ _ rfl (hown.alloc _) ⟨w1.heap.size, 0, none⟩ 1 1 [.int .u8 c.toNat] rfl rfl ?c1 ?c2 ?c3 ?c4 ?c5 ?_)
  case c1 =>
    intro j u hj
    match j, hj with
    | 0, hj => simp at hj; subst hj; simp [Addr.add]
  case c2 => intro u hu; simp at hu; subst hu; rfl
  case c3 => rw [hlb]; unfold maxLen; omega
  case c4 => rw [hlb]; omega
  case c5 => have := hb1.size; simp; omega
  intro v' w2 hown' hgrow _
  have hb2 : w2.heap[b]? = some (.cells #[.pointer (some ⟨b, 0, none⟩), v] 54 (0, 0)) := by
    rw [hgrow.block b (by simp; omega) (fun e => hne e.symm), Lib.alloc_old w1 _ b hlt]
    exact hbk
  have d0 : w2.cell? ⟨b, 0, none⟩ = some (.pointer (some ⟨b, 0, none⟩)) := by rw [Lib.cell_of_heap hb2]; rfl
  have d1 : w2.cell? ⟨b, 1, none⟩ = some v := by rw [Lib.cell_of_heap hb2]; rfl
  have f1 : w2.frozen? ⟨b, 1, none⟩ = false := Lib.frozen_of_heap hb2 1
  obtain ⟨g, cap, rfl⟩ : ∃ g cap, v' = .slice (some ⟨g, 0, none⟩) (l.length + 1) cap := by
    rcases hown'.2 with ⟨_, h0⟩ | ⟨g, cap, cur, fz, hv, _⟩
    · omega
    · exact ⟨g, cap, hv⟩
  go_wp2
  go_ret
  refine ⟨rfl, .inr ?_, ?_, ((hk1.alloc _).grown hgrow (Lib.ownsRowF_kind (hown.alloc _))).setCell ⟨b, 1, none⟩ rfl _⟩
  · have := Lib.BuilderAtF.put (T := 54) (e := 5) hB hb2 (bs' := Lib.byteCells l ++ [.int .u8 c.toNat]) (by rw [List.length_append, hlb]; exact hown') bldNe
    exact (byteCells_app l [c]) ▸ this
  · exact ((hb1.alloc (by have := hb1.size; omega) _).grown hgrow (by have := hb1.size; simp; omega) (fun k hk => (hown.lt k hk).1)).setCell (p := ⟨b, 1, none⟩) hB _
set_option maxHeartbeats 2000000 in
set_option maxRecDepth 100000 in
theorem writeString (B b : Nat) (l : List UInt8) (s : ByteArray) (w : World) (h : Bld B b l w) (hlen : l.length + s.size ≤ 140737488355328) (hBw : B ≤ w.heap.size) :
    Calls Try.prog 33 #[.pointer (some ⟨b, 0, none⟩), .string s] w fun e w' => e = .returned (.tuple #[.int .i64 s.size, .nilIface]) ∧ Bld B b (l ++ s.data.toList) w' ∧ Below B w w' ∧ Lib.OthersKept 5 (some b) w w' := by
  obtain ⟨i0, hi, hz0, hz1, hz2⟩ := byteInfo
  have hlb : (Lib.byteCells l).length = l.length := Lib.byteCells_length l
  go_enter Try.func33, Try.ntmps33
  go_wp2_with (go_at_call 57; refine (check_any B b _ _ h).mono ?_)
  rintro e w1 ⟨rfl, h1, hb1, hk1⟩
  have hlt := bld_lt h1
  obtain ⟨hB, v, hbk, hown, hne⟩ := h1
  have c0 : w1.cell? ⟨b, 0, none⟩ = some (.pointer (some ⟨b, 0, none⟩)) := by rw [Lib.cell_of_heap hbk]; rfl
  have c1 : w1.cell? ⟨b, 1, none⟩ = some v := by rw [Lib.cell_of_heap hbk]; rfl
  go_wp2_with (at_builtin; refine Lib.wpList_append_own_stringF _ rfl _ _ 43 9 rfl B 5 i0 Try.underlying43 Try.underlying9 hi hz0 hz1 hz2 _ _ _ rfl hown s rfl ?c3 ?c4 ?c5 ?_)
  case c3 => rw [hlb]; unfold maxLen; omega
  case c4 => rw [hlb]; omega
  case c5 => have := hb1.size; omega
  intro v' w2 hown' hgrow _
  have hb2 : w2.heap[b]? = some (.cells #[.pointer (some ⟨b, 0, none⟩), v] 54 (0, 0)) := by
    rw [hgrow.block b hlt (fun e => hne e.symm)]
    exact hbk
  have d0 : w2.cell? ⟨b, 0, none⟩ = some (.pointer (some ⟨b, 0, none⟩)) := by rw [Lib.cell_of_heap hb2]; rfl
  have d1 : w2.cell? ⟨b, 1, none⟩ = some v := by rw [Lib.cell_of_heap hb2]; rfl
  have f1 : w2.frozen? ⟨b, 1, none⟩ = false := Lib.frozen_of_heap hb2 1
  obtain ⟨ao, n', cap, rfl⟩ : ∃ ao n' cap, v' = .slice ao n' cap := by
    rcases hown'.2 with ⟨hv, _⟩ | ⟨g, cap, cur, fz, hv, _⟩
    · exact ⟨_, _, _, hv⟩
    · exact ⟨_, _, _, hv⟩
  go_wp2
  go_ret2
  refine ⟨rfl, .inr ?_, ?_, (hk1.grown hgrow (Lib.ownsRowF_kind hown)).setCell ⟨b, 1, none⟩ rfl _⟩
  · have := Lib.BuilderAtF.put (T := 54) (e := 5) hB hb2 (bs' := Lib.byteCells l ++ Lib.strCells s) (by rw [List.length_append, hlb, Lib.strCells_length]; exact hown') bldNe
    have e : Lib.byteCells l ++ Lib.strCells s = Lib.byteCells (l ++ s.data.toList) := by rw [← byteCells_app]; rfl
    exact e ▸ this
  · exact (hb1.grown hgrow (by have := hb1.size; omega) (fun k hk => (hown.lt k hk).1)).setCell (p := ⟨b, 1, none⟩) hB _
end Go.Proofs.Ytdegeodegjmddaa.Row

namespace Go.Proofs.Ytdegeodegjmddaa.Range
open Go.RowKit
variable {F : Fence} {n : Nat} {P : Program}

/-- A change that leaves every row of cells, and every block below B, as it lay. -/
structure Calm (B : Nat) (W W' : World) : Prop where
  os : W'.os = W.os
  tape : W'.tape = W.tape
  output : W'.output = W.output
  size : W.heap.size ≤ W'.heap.size
  same : ∀ (k : Nat) (o : Obj), W.heap[k]? = some o → (o.isCells = true ∨ k < B) → W'.heap[k]? = some o
theorem Calm.alloc (B : Nat) (W : World) (o : Obj) : Calm B W (W.alloc o) :=
  ⟨rfl, rfl, rfl, by simp, fun k o' h _ => (Below.heap_alloc W o k (Array.getElem?_eq_some_iff.1 h).1).trans h⟩
theorem Calm.putObj {B : Nat} {W : World} {l : Nat} {o : Obj} (o' : Obj) (hl : B ≤ l) (h : W.heap[l]? = some o) (ho : o.isCells = false) : Calm B W (W.putObj l o') :=
  ⟨rfl, rfl, rfl, by simp, fun k o'' hk hc => by
    by_cases e : k = l
    · subst e
      rw [h] at hk
      cases hk
      rcases hc with hc | hc
      · rw [ho] at hc; cases hc
      · omega
    · exact (World.putObj_heap_other e).trans hk⟩
theorem Calm.below {B : Nat} {W W' : World} (h : Calm B W W') {n : Nat} (hn : n ≤ B) (hs : n ≤ W.heap.size) : Below n W W' :=
  ⟨h.os, h.tape, h.output, h.size, fun k hk => by
    have hlt : k < W.heap.size := by omega
    have e : W.heap[k]? = some W.heap[k] := Array.getElem?_eq_getElem hlt
    rw [e]
    exact h.same k _ e (.inr (by omega))⟩
theorem Calm.cells {B : Nat} {W W' : World} (h : Calm B W W') {k : Nat} {cs : Array Value} {t : TypeId} {fr : Nat × Nat} (hk : W.heap[k]? = some (.cells cs t fr)) : W'.heap[k]? = some (.cells cs t fr) :=
  h.same k _ hk (.inl rfl)

/-- What the rounds' own book-keeping blocks ask of a step. -/
def Others (B : Nat) (W W' : World) : Prop := W.heap.size ≤ W'.heap.size ∧ ∀ (k : Nat) (o : Obj), B ≤ k → W.heap[k]? = some o → o.isCells = false → W'.heap[k]? = some o

def bodyPost {α : Type} (B : Nat) (Kp : World → World → Prop) (I : List α → World → Prop) (xs : List α) (W : World) : Exit → Act → World → Prop
  | .normal, _, W' => Others B W W' ∧ Kp W W' ∧ I xs W'
  | .ret, _, _ => False
  | .exit _, _, _ => False
  | .goto _, _, _ => False
  | .panic _, _, _ => False
  | .outgrown, _, _ => False

/-- The iterator's contract: whatever the rounds' invariant, if it abides the iterator's own steps. -/
def SeqBy {α : Type} (F : Fence) (n : Nat) (P : Program) (g : Nat) (lb : Array Value) (encs : α → Array Value) (St Kp : World → World → Prop) (S : List α → Prop) (pr : List α → α → Prop) (w : World) : Prop :=
  ∀ (l : Nat) (J : List α → World → Prop) (W : World), Calm w.heap.size w W → (∀ s A B, J s A → St A B → J s B) →
    (∀ pre x W1, J pre W1 → pr pre x → YieldAt F (n - 1) P l (encs x) W1 fun e W' => e = .returned (.bool true) ∧ J (pre ++ [x]) W' ∧ Kp W1 W') →
    J [] W →
    CallsIn F n P g (#[.func (.yield l) #[] #[]] ++ lb) W fun e W' => (∃ v, e = .returned v) ∧ ∃ xs, S xs ∧ J xs W'

theorem wp_rangeBy {α : Type} {g : Operand} {ps : Array Tmp} {assign body : Code} {Q : Exit → Act → World → Prop} {a : Act} {w : World}
    (hro : F.round = none) (h1 : 1 ≤ n) {gf : Nat} {lb : Array Value} (hg : a.eval g = .func (.func gf) #[] lb) (hFg : F.fn gf) (eg : ∀ args w, (callFunc gf args).run P w = .ok (.enter gf args) w)
    {encs : α → Array Value} {St Kp : World → World → Prop} {S : List α → Prop} {pr : List α → α → Prop} (hseq : SeqBy F (n - 1) P gf lb encs St Kp S pr w)
    (hSt : ∀ A B, St A B → Others w.heap.size A B)
    (hKt : ∀ {A B C : World}, Kp A B → Kp B C → Kp A C) (hKb : ∀ W W', w.heap.size ≤ W.heap.size → Calm w.heap.size W W' → Kp W W') (hps : ∀ x, (encs x).size = ps.size)
    (I : List α → World → Prop) (hI : ∀ s A B, I s A → Calm w.heap.size A B → I s B) (hIs : ∀ s A B, I s A → St A B → I s B) (h0 : I [] w) (a₁ : α → Act)
    (hassign : ∀ (l : Nat) (x : α) (W : World) (K : Act → World → Prop), K (a₁ x) W →
      assign.wpIn (F.inRound l) (n - 1 - 1) P (Exit.then K (fun _ _ _ => False)) { tmps := (ps.zip (encs x)).foldl (fun t (p, v) => t.setIfInBounds p v) a.tmps, defers := [] } W)
    (hbody : ∀ (l : Nat) (pre : List α) (x : α) (W : World), I pre W → pr pre x → body.wpIn (F.inRound l) (n - 1 - 1) P (bodyPost w.heap.size Kp I (pre ++ [x]) W) (a₁ x) W)
    (hdone : ∀ (D : Nat) (xs : List α) (W : World), w.heap.size ≤ D → S xs → I xs W → W.heap[D]? = some (.deferred (some [])) → Q .normal { a with defers := { target := .collected D, args := #[] } :: a.defers } W) :
    (Code.rangeFunc g ps assign body).wpIn F n P Q a w := by
  refine wpIn_rangeFunc ?_
  intro fn hfn
  rw [hro]
  obtain ⟨rec, hrec⟩ : ∃ rec : LoopState → Option Code → Loop, rec = fun st pe => { state := st, pending := pe, fn, tmps := a.tmps, params := ps, assign, body, defers := w.heap.size } := ⟨_, rfl⟩
  obtain ⟨W1, hW1⟩ : ∃ W1, (w.alloc (.deferred (some []))).alloc (.loop (rec .ready none)) = W1 := ⟨_, rfl⟩
  have hL1 : W1.heap[w.heap.size + 1]? = some (.loop (rec .ready none)) := by
    rw [← hW1]; have := World.alloc_heap_new (w.alloc (.deferred (some []))) (.loop (rec .ready none)); rwa [World.size_alloc] at this
  have hK1 : W1.heap[w.heap.size]? = some (.deferred (some [])) := by
    rw [← hW1]; exact (Below.heap_alloc _ _ _ (by simp)).trans (World.alloc_heap_new w _)
  have hI1 : I [] W1 := by rw [← hW1]; exact hI _ _ _ (hI _ _ _ h0 (Calm.alloc _ _ _)) (Calm.alloc _ _ _)
  have hb1 : Calm w.heap.size w W1 := by
    rw [← hW1]
    refine ⟨rfl, rfl, rfl, by simp; omega, fun k o h _ => ?_⟩
    have hlt := (Array.getElem?_eq_some_iff.1 h).1
    exact (Below.heap_alloc _ _ k (by simp; omega)).trans ((Below.heap_alloc _ _ k hlt).trans h)
  refine ⟨w.heap.size + 1, [{ target := .collected w.heap.size, args := #[] }], W1, { target := .fn (.func gf) lb, args := #[.func (.yield (w.heap.size + 1)) #[] #[]] }, W1, gf,
    #[.func (.yield (w.heap.size + 1)) #[] #[]] ++ lb, W1, ?_, ?_, ?_, ?_, fun _ => h1, ?_⟩
  · rw [← hW1, hrec]; exact run_enterLoop_outer _ _ _ _ _
  · simp only [resolve, hg]
    simp [go_sem]
  · intro f' hf'; simp [Target.leads] at hf'; subst hf'; exact hFg
  · simp [invoke, go_sem, eg]
  · refine (hseq (w.heap.size + 1)
      (fun pre W => I pre W ∧ W.heap[w.heap.size + 1]? = some (.loop (rec .ready none)) ∧ W.heap[w.heap.size]? = some (.deferred (some [])))
      W1 hb1
      (fun s A B hs hst => ⟨hIs s A B hs.1 hst, (hSt A B hst).2 _ _ (by omega) hs.2.1 rfl, (hSt A B hst).2 _ _ (by omega) hs.2.2 rfl⟩)
      ?_ ⟨hI1, hL1, hK1⟩).mono ?_
    · rintro pre x W ⟨hi, hl, hk⟩ hlen
      have hlt : w.heap.size + 1 < W.heap.size := (Array.getElem?_eq_some_iff.1 hl).1
      have hy := run_yield (P := P) (args := encs x) hl (by rw [hrec]; exact hps x)
      rw [hrec] at hy
      refine ⟨fn, _, assign, body, hy, roundIn_of_wpIn hfn (hassign _ x W _ ⟨_, run_beginRound hl (by rw [hrec]), ?_⟩)⟩
      have hl2 : (W.putObj (w.heap.size + 1) (.loop { rec .ready none with state := .busy })).heap[w.heap.size + 1]? = some (.loop { rec .ready none with state := .busy }) := World.putObj_heap_same hlt
      have hk2 : (W.putObj (w.heap.size + 1) (.loop { rec .ready none with state := .busy })).heap[w.heap.size]? = some (.deferred (some [])) := (World.putObj_heap_other (by omega)).trans hk
      have hc2 : Calm w.heap.size W (W.putObj (w.heap.size + 1) (.loop { rec .ready none with state := .busy })) := Calm.putObj _ (by omega) hl rfl
      refine wpIn_mono (hbody _ pre x _ (hI _ _ _ hi hc2) hlen) ?_
      rintro e a3 W3 hp
      cases e with
      | normal =>
        obtain ⟨hk3, hkp3, hi3⟩ := hp
        have hl3 := hk3.2 _ _ (by omega) hl2 rfl
        have hd3 := hk3.2 _ _ (Nat.le_refl _) hk2 rfl
        have he := run_endRound (P := P) none hl3
        have hc3 : Calm w.heap.size W3 (W3.putObj (w.heap.size + 1) (.loop (rec .ready none))) := Calm.putObj _ (by omega) hl3 rfl
        refine ⟨_, _, he, rfl, ⟨?_, ?_, ?_⟩, ?_⟩
        · rw [hrec] at hc3 ⊢; exact hI _ _ _ hi3 hc3
        · rw [hrec]; exact World.putObj_heap_same (Array.getElem?_eq_some_iff.1 hl3).1
        · exact (World.putObj_heap_other (by omega)).trans hd3
        · rw [hrec] at hc3 hc2 hkp3 ⊢; exact hKt (hKt (hKb _ _ (by omega) hc2) hkp3) (hKb _ _ (by have := (Array.getElem?_eq_some_iff.1 hd3).1; omega) hc3)
      | ret => exact hp.elim
      | exit id => exact hp.elim
      | goto t => exact hp.elim
      | panic ch => exact hp.elim
      | outgrown => exact hp.elim
    · rintro e W2 ⟨⟨v, rfl⟩, xs, hS, hi, hl, hk⟩
      refine ⟨none, _, by have := run_endLoop (P := P) hl (by rw [hrec]; simp); rw [hrec] at this; exact this, hdone _ xs _ (Nat.le_refl _) hS (hI _ _ _ hi (Calm.putObj _ (by omega) hl rfl)) ((World.putObj_heap_other (by omega)).trans hk)⟩
end Go.Proofs.Ytdegeodegjmddaa.Range

namespace Go.Proofs.Ytdegeodegjmddaa.Row
open Go.RowKit
set_option linter.unusedVariables false
/-- The block's first cells are these bytes; whatever is frozen stands behind them. -/
def Buf (w : World) (g : Nat) (t : TypeId) (l : List UInt8) : Prop := ∃ tail fz, w.heap[g]? = some (.cells (b8s l ++ tail).toArray t fz) ∧ (l.length ≤ fz.1 ∨ fz = (0, 0))
namespace Buf
variable {w w' : World} {g : Nat} {t : TypeId} {l : List UInt8}
theorem lt (h : Buf w g t l) : g < w.heap.size := by
  obtain ⟨tail, fz, h, _⟩ := h
  exact (Array.getElem?_eq_some_iff.1 h).1
theorem cell8 (h : Buf w g t l) (j : Nat) (hj : j < l.length) : w.cell? ⟨g, j, none⟩ = some (.int .u8 ((gb l j).toNat : Int)) := by
  obtain ⟨tail, fz, h, _⟩ := h
  rw [cell_of_row w g j _ _ _ h]
  simp only [List.getElem?_toArray]
  rw [List.getElem?_append_left (by rw [b8s_length]; exact hj), b8s_get _ _ hj]
theorem frozen (h : Buf w g t l) (j : Nat) (hj : j < l.length) : w.frozen? ⟨g, j, none⟩ = false := by
  obtain ⟨tail, fz, h, hf⟩ := h
  simp only [World.frozen?, h]
  rcases hf with hf | rfl
  · simp; omega
  · simp
theorem set8 (h : Buf w g t l) (j : Nat) (hj : j < l.length) (b : UInt8) : Buf (w.setCell ⟨g, j, none⟩ (.int .u8 (b.toNat : Int))) g t (l.set j b) := by
  obtain ⟨tail, fz, h, hf⟩ := h
  refine ⟨tail, fz, ?_, by rw [List.length_set]; exact hf⟩
  have e : (w.setCell ⟨g, j, none⟩ (.int .u8 (b.toNat : Int))).heap[g]? = some (.cells ((b8s l ++ tail).toArray.setIfInBounds j (.int .u8 (b.toNat : Int))) t fz) := by
    simp [World.setCell, Array.getElem?_modify, h]
  rw [e]
  congr 2
  rw [← b8s_set, ← List.set_append_left _ _ (by rw [b8s_length]; exact hj)]
  simp
theorem other (h : Buf w g t l) (a : Addr) (v : Value) (ha : g ≠ a.block) : Buf (w.setCell a v) g t l := by
  obtain ⟨tail, fz, h, hf⟩ := h
  exact ⟨tail, fz, (heap_setCell_other w a g v ha).trans h, hf⟩
theorem below {B : Nat} (h : Buf w g t l) (hb : Below B w w') (hg : g < B) : Buf w' g t l := by
  obtain ⟨tail, fz, h, hf⟩ := h
  exact ⟨tail, fz, (hb.block g hg).trans h, hf⟩
theorem go (h : Buf w g t l) (hb : Below w.heap.size w w') : Buf w' g t l := h.below hb h.lt
theorem drew (h : Buf w g t l) : Buf w.drew g t l := h
theorem ofString (w : World) (t : TypeId) (s : ByteArray) : Buf (Lib.bytesWorld w t s) w.heap.size t s.data.toList := by
  have h := Lib.bytesWorld_at_new w t s
  have e : Lib.bytesCells w t s = (b8s s.data.toList ++ List.replicate (grownCap w s.size 0 t - s.size) (Value.int .u8 0)).toArray := by
    apply Array.toList_inj.1
    simp [Lib.bytesCells, b8s]
    intro a _
    rfl
  refine ⟨List.replicate (grownCap w s.size 0 t - s.size) (.int .u8 0), ((Lib.bytesCells w t s).size, (Lib.bytesCells w t s).size + 1), ?_, .inl ?_⟩
  · rw [h, ← e]
  · rw [e]
    simp
end Buf
end Go.Proofs.Ytdegeodegjmddaa.Row
