/- Arrays in memory: a block that is one row of cells, read, written, carried. Conditions: as each theorem names them. -/
import Derived.Test.YtdegeodegjmddaaG0
namespace Go.Proofs.Ytdegeodegjmddaa.Row
open Go Go.RowKit
set_option maxRecDepth 100000
set_option linter.unusedVariables false
set_option linter.unusedSimpArgs false

theorem wrap64_of_bounds {n : Int} (h1 : -9223372036854775808 ≤ n) (h2 : n < 9223372036854775808) : wrap64 n = n := by
  unfold wrap64; omega
theorem wrapi_of_bounds {n : Int} (h1 : -9223372036854775808 ≤ n) (h2 : n < 9223372036854775808) : IntKind.i64.wrap n = n := by
  rw [IntKind.wrap_i64]; omega
/-- Block g is one row of the cells cs, and may be written. -/
structure At (w : World) (g : Nat) (t : TypeId) (cs : List Value) : Prop where
  heap : w.heap[g]? = some (.cells cs.toArray t (0, 0))
/-- a byte by its place -/
def gb (l : List UInt8) (j : Nat) : UInt8 := l.getD j 0
def b8 (b : UInt8) : Value := .int .u8 (b.toNat : Int)
def u32 (b : UInt32) : Value := .int .u32 (b.toNat : Int)
def b8s (l : List UInt8) : List Value := l.map b8
@[simp] theorem b8s_length (l : List UInt8) : (b8s l).length = l.length := by simp [b8s]
theorem b8s_get (l : List UInt8) (j : Nat) (h : j < l.length) : (b8s l)[j]? = some (.int .u8 ((gb l j).toNat : Int)) := by
  simp [b8s, b8, gb, h, List.getD_eq_getElem?_getD]
theorem ext8 {l m : List UInt8} (h : l.length = m.length) (hj : ∀ j, j < l.length → gb l j = gb m j) : l = m := by
  apply List.ext_getElem h
  intro i h1 h2
  have := hj i h1
  simpa [gb, List.getD_eq_getElem?_getD, h1, h2] using this
theorem u8x (a b : UInt8) : bits .xor .u8 (a.toNat : Int) (b.toNat : Int) = ((a ^^^ b).toNat : Int) := by
  rw [u8_xor_nat _ _ a.toNat_lt b.toNat_lt, UInt8.toNat_xor]
theorem b8s_set (l : List UInt8) (j : Nat) (b : UInt8) : (b8s l).set j (.int .u8 (b.toNat : Int)) = b8s (l.set j b) := by
  simp [b8s, b8, List.map_set]

namespace At
variable {w w' : World} {g : Nat} {t : TypeId} {cs : List Value}
theorem lt (h : At w g t cs) : g < w.heap.size := (Array.getElem?_eq_some_iff.1 h.heap).1
theorem cell (h : At w g t cs) (j : Nat) (v : Value) (hj : cs[j]? = some v) : w.cell? ⟨g, j, none⟩ = some v := by
  rw [cell_of_row w g j _ t _ h.heap]; simpa using hj
theorem cell8 {l : List UInt8} (h : At w g t (b8s l)) (j : Nat) (hj : j < l.length) : w.cell? ⟨g, j, none⟩ = some (.int .u8 ((gb l j).toNat : Int)) :=
  h.cell j _ (b8s_get l j hj)
theorem frozen (h : At w g t cs) (j : Nat) : w.frozen? ⟨g, j, none⟩ = false := frozen_of_row w g j _ t h.heap
theorem set (h : At w g t cs) (j : Nat) (v : Value) : At (w.setCell ⟨g, j, none⟩ v) g t (cs.set j v) := by
  constructor
  rw [heap_setCell_same w g j _ t v h.heap]
  simp
theorem set8 {l : List UInt8} (h : At w g t (b8s l)) (j : Nat) (b : UInt8) : At (w.setCell ⟨g, j, none⟩ (.int .u8 (b.toNat : Int))) g t (b8s (l.set j b)) := by
  rw [← b8s_set]; exact h.set j _
theorem other (h : At w g t cs) (a : Addr) (v : Value) (ha : g ≠ a.block) : At (w.setCell a v) g t cs := ⟨(heap_setCell_other w a g v ha).trans h.heap⟩
theorem alloc (h : At w g t cs) (o : Obj) : At (w.alloc o) g t cs := ⟨(Below.heap_alloc w o g h.lt).trans h.heap⟩
theorem new (w : World) (cs : List Value) (t : TypeId) : At (w.alloc (.cells cs.toArray t (0, 0))) w.heap.size t cs := ⟨heap_alloc_new w _⟩
theorem newAt {w : World} {cs : List Value} {t : TypeId} {g : Nat} (hg : g = w.heap.size) : At (w.alloc (.cells cs.toArray t (0, 0))) g t cs := by rw [hg]; exact new w cs t
theorem below {B : Nat} (h : At w g t cs) (hb : Below B w w') (hg : g < B) : At w' g t cs := ⟨(hb.block g hg).trans h.heap⟩
theorem drewSet8 {l : List UInt8} (h : At w g t (b8s l)) (j : Nat) (b : UInt8) : At (w.setCell ⟨g, j, none⟩ (.int .u8 (b.toNat : Int))).drew g t (b8s (l.set j b)) := ⟨(h.set8 j b).heap⟩
theorem drew (h : At w g t cs) : At w.drew g t cs := ⟨h.heap⟩
theorem setRow (h : At w g t cs) (cs' : List Value) : At (w.setRow g cs'.toArray) g t cs' := ⟨setRow_heap w g _ _ t _ h.heap⟩
theorem setRow_other (h : At w g t cs) (k : Nat) (cs' : List Value) (hk : g ≠ k) : At (w.setRow k cs'.toArray) g t cs := ⟨(Go.setRow_other w k g _ hk).trans h.heap⟩
theorem row_below {B : Nat} {w0 : World} (hb : Below B w0 w) (hg : B ≤ g) (cs' : Array Value) : Below B w0 (w.setRow g cs') :=
  hb.trans ⟨rfl, rfl, rfl, by simp, fun k hk => Go.setRow_other w g k cs' (by omega)⟩
section
variable {P : Program} {ops : Array Oper} {rest : List Oper} {o : Oper} {a : Act} {Q : Exit → Act → World → Prop}
theorem load (h : At w g t cs) (ty : TypeId) (x : Operand) (hgd : o.guard = none) (ho : o.op = .load ty x) (hx : a.eval x = .pointer (some ⟨g, 0, none⟩)) (d : TypeDesc)
    (hu : P.underlying ty = some d) (hd : (match d with | .struct _ | .array _ _ => true | _ => false) = true) (hi : (P.info? ty).map (·.size) = some cs.length)
    (k : wpList P ops Q rest (a.put o.dst (.agg cs.toArray)) w) : wpList P ops Q (o :: rest) a w :=
  wpList_load_row hgd ty x ho g hx t _ _ d h.heap hu hd (by simpa using hi) k
theorem loadMid {l : List UInt8} (h : At w g t (b8s l)) (ty : TypeId) (x : Operand) (off n : Nat) (hn : off + n ≤ l.length) (hgd : o.guard = none) (ho : o.op = .load ty x) (hx : a.eval x = .pointer (some ⟨g, off, none⟩)) (d : TypeDesc)
    (hu : P.underlying ty = some d) (hd : d.isRow = true) (hi : (P.info? ty).map (·.size) = some n)
    (k : wpList P ops Q rest (a.put o.dst (.agg (b8s ((l.drop off).take n)).toArray)) w) : wpList P ops Q (o :: rest) a w := by
  have hlen : ((l.drop off).take n).length = n := by rw [List.length_take, List.length_drop]; omega
  refine wpList_load_mid hgd ty x ho g off hx (b8s ((l.drop off).take n)) d (fun j v hv => ?_) hu hd (by rw [b8s_length, hlen]; exact hi) k
  have hj : j < n := by
    have := (List.getElem?_eq_some_iff.1 hv).1
    rwa [b8s_length, hlen] at this
  rw [h.cell (off + j) v]
  rw [← hv]
  simp [b8s, List.getElem?_take, hj, List.getElem?_drop]
theorem store (h : At w g t cs) (ty : TypeId) (x y : Operand) (cs' : List Value) (hgd : o.guard = none) (ho : o.op = .store ty x y) (hx : a.eval x = .pointer (some ⟨g, 0, none⟩)) (hy : a.eval y = .agg cs'.toArray)
    (hl : cs.length = cs'.length) (hi : (P.info? ty).map (·.size) = some cs'.length) (h1 : ∀ v ∈ cs', v.oneCell' = true)
    (k : wpList P ops Q rest (a.put o.dst undef) (w.setRow g cs'.toArray)) : wpList P ops Q (o :: rest) a w :=
  wpList_store_row hgd ty x y ho g _ hx hy t _ h.heap (by simpa using hi) (by simpa using hl) (all_oneCell_toArray h1) k
theorem stillLoad {l : List UInt8} {R : Act → Prop} (h : At w g t (b8s l)) (ty : TypeId) (x : Operand) (off n : Nat) (hn : off + n ≤ l.length) (hgd : o.guard = none) (ho : o.op = .load ty x) (hx : a.eval x = .pointer (some ⟨g, off, none⟩)) (d : TypeDesc)
    (hu : P.underlying ty = some d) (hd : d.isRow = true) (hi : (P.info? ty).map (·.size) = some n)
    (k : wpStill P ops w R rest (a.put o.dst (.agg (b8s ((l.drop off).take n)).toArray))) : wpStill P ops w R (o :: rest) a := by
  have hlen : ((l.drop off).take n).length = n := by rw [List.length_take, List.length_drop]; omega
  have hr : w.rangeAt g off (b8s ((l.drop off).take n)) := fun j v hv => by
    have hj : j < n := by
      have := (List.getElem?_eq_some_iff.1 hv).1
      rwa [b8s_length, hlen] at this
    rw [h.cell (off + j) v]
    rw [← hv]
    simp [b8s, List.getElem?_take, hj, List.getElem?_drop]
  refine wpStill_step fun K hK => ?_
  rw [if_pos (by simp [Region.wanted, hgd])]
  unfold Oper.still execOp
  simp only [ho, hx, Instr.loadAt, Instr.sureAddr, Sem.run_bind, Sem.run_pure, Result.andThen_ok, run_loadVar_mid w g off ty _ d hr hu hd (by rw [b8s_length, hlen]; exact hi)]
  exact ⟨rfl, hK _ k⟩
theorem stillLoad0 {l : List UInt8} {R : Act → Prop} (h : At w g t (b8s l)) (ty : TypeId) (x : Operand) (hgd : o.guard = none) (ho : o.op = .load ty x) (hx : a.eval x = .pointer (some ⟨g, 0, none⟩)) (d : TypeDesc)
    (hu : P.underlying ty = some d) (hd : d.isRow = true) (hi : (P.info? ty).map (·.size) = some l.length)
    (k : wpStill P ops w R rest (a.put o.dst (.agg (b8s l).toArray))) : wpStill P ops w R (o :: rest) a :=
  h.stillLoad ty x 0 l.length (by omega) hgd ho hx d hu hd hi (by rw [List.drop_zero, List.take_length]; exact k)
/-- One operation alone may come up next, in a region that draws its order. -/
theorem anyH_one {i : Nat} {md : Region.Mode} {S : World → Prop} {fuel : Nat} {listed : Array Bool} {R : Exit → Act → World → Prop} (hr : Region.ready md ops listed = [i]) (ho : ops[i]? = some o)
    (h : if Region.wanted o (yielded ops a.tmps) = true then Oper.wp P o a w (fun a' w' => S w' ∧ wpAnyH P md ops R S fuel (listed.setIfInBounds i true) a' w') R else (S w ∧ wpAnyH P md ops R S fuel (listed.setIfInBounds i true) (a.put o.dst undef) w)) :
    wpAnyH P md ops R S (fuel + 1) listed a w := by
  refine wpAnyH_all hr (by simp) fun j hj => ?_
  obtain rfl : j = i := by simpa using hj
  unfold wpOp
  simp only [ho]
  by_cases hw : Region.wanted o (yielded ops a.tmps) = true
  · rw [if_pos hw] at h ⊢
    exact .inl h
  · rw [if_neg hw] at h ⊢
    exact h
/-- A whole row is read, by itself. -/
theorem takeN {i : Nat} {md : Region.Mode} {S : World → Prop} {fuel : Nat} {listed : Array Bool} {R : Exit → Act → World → Prop} (N : Option Tmp) (v : Value) (hi : ops[i]? = some o) (hN : o.dst = N)
    (hs : Region.noSelect ops = true) (hf : Region.free md ops listed i = true) (hr : (Region.ready md ops listed).contains i = true)
    (hQ : ∀ c a w, R (.panic c) (a.put N v) w → R (.panic c) a w) (hy : YieldsIf P ops S o v a) (hS : S w)
    (h : wpAnyH P md ops R S fuel (listed.setIfInBounds i true) (a.put N v) w) : wpAnyH P md ops R S (fuel + 1) listed a w := by
  subst hN
  exact wpAnyH_take hi hs hf hr hQ hy hS h
theorem wpLoad {K : Act → World → Prop} {R : Exit → Act → World → Prop} {E : Prop} (N : Option Tmp) (hN : o.dst = N) (h : At w g t cs) (ty : TypeId) (x : Operand) (hgd : o.guard = none) (ho : o.op = .load ty x) (hx : a.eval x = .pointer (some ⟨g, 0, none⟩)) (d : TypeDesc)
    (hu : P.underlying ty = some d) (hd : (match d with | .struct _ | .array _ _ => true | _ => false) = true) (hi : (P.info? ty).map (·.size) = some cs.length)
    (k : K (a.put N (.agg cs.toArray)) w) : if Region.wanted o (yielded ops a.tmps) = true then Oper.wp P o a w K R else E := by
  subst hN
  rw [if_pos (by simp [Region.wanted, hgd])]
  exact wp_load_row ty x ho g hx t _ _ d h.heap hu hd (by simpa using hi) k
/-- A whole row is written, by itself. -/
theorem wpStore {K : Act → World → Prop} {R : Exit → Act → World → Prop} {E : Prop} (hN : o.dst = none) (h : At w g t cs) (ty : TypeId) (x y : Operand) (cs' : List Value) (hgd : o.guard = none) (ho : o.op = .store ty x y) (hx : a.eval x = .pointer (some ⟨g, 0, none⟩)) (hy : a.eval y = .agg cs'.toArray)
    (hl : cs.length = cs'.length) (hi : (P.info? ty).map (·.size) = some cs'.length) (h1 : ∀ v ∈ cs', v.oneCell' = true)
    (k : K a (w.setRow g cs'.toArray)) : if Region.wanted o (yielded ops a.tmps) = true then Oper.wp P o a w K R else E := by
  have k : K (a.put o.dst undef) (w.setRow g cs'.toArray) := by rw [hN]; exact k
  rw [if_pos (by simp [Region.wanted, hgd])]
  exact wp_store_row ty x y ho g _ hx hy t _ h.heap (by simpa using hi) (by simpa using hl) (all_oneCell_toArray h1) k
theorem yieldsMid {l : List UInt8} {S : World → Prop} (hS : ∀ w, S w → At w g t (b8s l)) (ty : TypeId) (x : Operand) (off n : Nat) (hn : off + n ≤ l.length) (hgd : o.guard = none) (ho : o.op = .load ty x) (hx : a.eval x = .pointer (some ⟨g, off, none⟩)) (d : TypeDesc)
    (hu : P.underlying ty = some d) (hd : d.isRow = true) (hi : (P.info? ty).map (·.size) = some n) : YieldsIf P ops S o (.agg (b8s ((l.drop off).take n)).toArray) a := by
  have hlen : ((l.drop off).take n).length = n := by rw [List.length_take, List.length_drop]; omega
  refine yieldsIf_load_mid (by simp [Region.wanted, hgd]) ty x ho g off hx (b8s ((l.drop off).take n)) d (fun w hw j v hv => ?_) hu hd (by rw [b8s_length, hlen]; exact hi)
  have hj : j < n := by
    have := (List.getElem?_eq_some_iff.1 hv).1
    rwa [b8s_length, hlen] at this
  rw [(hS w hw).cell (off + j) v]
  rw [← hv]
  simp [b8s, List.getElem?_take, hj, List.getElem?_drop]
theorem ret {fn : Func} {p : Tmp} {ty : TypeId} (h : At w g t cs) (hr : fn.results = #[.cell p ty]) (tmps : Array Value) (d : TypeDesc)
    (hp : tmps.getD p undef = .pointer (some ⟨g, 0, none⟩)) (hu : P.underlying ty = some d) (hd : (match d with | .struct _ | .array _ _ => true | _ => false) = true) (hi : (P.info? ty).map (·.size) = some cs.length) :
    (results fn tmps).run P w = .ok (.agg cs.toArray) w :=
  results_cell_row hr tmps w g t _ _ d hp h.heap hu hd (by simpa using hi)
end
/-- A list with some of its elements overwritten by others. -/
def spl {α : Type} (l : List α) (o : Nat) (c : List α) : List α := l.take o ++ c ++ l.drop (o + c.length)
theorem b8s_spl (l : List UInt8) (o : Nat) (c : List UInt8) : spl (b8s l) o (b8s c) = b8s (spl l o c) := by
  simp [spl, b8s, List.map_append, List.map_take, List.map_drop]
theorem spl_length {α : Type} (l : List α) (o : Nat) (c : List α) (h : o + c.length ≤ l.length) : (spl l o c).length = l.length := by
  rw [spl, List.length_append, List.length_append, List.length_take, List.length_drop]; omega
theorem one8 (l : List UInt8) : ∀ v ∈ b8s l, v.oneCell' = true := by
  intro v hv
  obtain ⟨b, _, rfl⟩ := List.mem_map.1 hv
  rfl
section
variable {P : Program}
theorem run_copy_bytes (w : World) (dT sT ty elem : TypeId) (g o dLen dCap : Nat) (s : ByteArray) (l : List UInt8) (t : TypeId)
    (hu : P.underlying dT = some (.slice elem)) (hs : (P.info? elem).map (·.size) = some 1) (h : At w g t (b8s l)) (hfit : o + Nat.min s.size dLen ≤ l.length) :
    (Builtin.copy_ #[dT, sT] ty #[.slice (some ⟨g, o, none⟩) dLen dCap, .string s]).run P w =
      .ok (goInt (Nat.min s.size dLen)) (w.setRow g (b8s (spl l o (s.data.toList.take dLen))).toArray) := by
  have hsz : s.size = s.data.toList.length := Array.length_toList.symm
  have hlen : (b8s (s.data.toList.take dLen)).length = Nat.min s.size dLen := by
    rw [b8s_length, List.length_take, hsz]
    exact Nat.min_comm _ _
  have hst := run_storeCells_at P g o t (b8s (s.data.toList.take dLen)) 0 (b8s l).toArray w h.heap (by rw [hlen]; simpa using hfit) (one8 _)
  have htk : (List.take (Nat.min s.size dLen) s.data.toList).map (fun b : UInt8 => Value.int IntKind.u8 (b.toNat : Int)) = b8s (s.data.toList.take dLen) := by
    unfold b8s b8
    congr 1
    rcases Nat.le_total s.size dLen with h1 | h1
    · rw [show Nat.min s.size dLen = s.size from Nat.min_eq_left h1, List.take_of_length_le (by omega), List.take_of_length_le (by omega)]
    · rw [show Nat.min s.size dLen = dLen from Nat.min_eq_right h1]
  rw [hlen] at hst
  simp only [Nat.add_zero] at hst
  have e : ((b8s l).toArray.toList.take o ++ b8s (s.data.toList.take dLen) ++ (b8s l).toArray.toList.drop (o + Nat.min s.size dLen)) = b8s (spl l o (s.data.toList.take dLen)) := by
    rw [← b8s_spl]
    simp only [spl, hlen]
  rw [e] at hst
  cases hq : P.info? elem with
  | none => simp [hq] at hs
  | some i =>
    simp only [hq, Option.map_some, Option.some.injEq] at hs
    simp [Builtin.copy_, run_underlying hu, Builtin.lenOf, Builtin.firstCells, sizeOf, typeInfo, hq]
    rw [List.map_take] at htk
    rw [htk, hst]
    simp [Result.andThen]
variable {ops : Array Oper} {rest : List Oper} {o : Oper} {a : Act} {Q : Exit → Act → World → Prop}
/-- copy(d, s), s a string, d within the row. -/
theorem copyStr {l : List UInt8} (h : At w g t (b8s l)) (d x : Operand) (dT sT elem : TypeId) (off dLen dCap : Nat) (s : ByteArray) (hgd : o.guard = none)
    (ho : o.op = .call { callee := .builtin .copy, args := #[d, x], argTypes := #[dT, sT] }) (hd : a.eval d = .slice (some ⟨g, off, none⟩) dLen dCap) (hx : a.eval x = .string s)
    (hu : P.underlying dT = some (.slice elem)) (hsz : (P.info? elem).map (·.size) = some 1) (hfit : off + Nat.min s.size dLen ≤ l.length)
    (k : wpList P ops Q rest (a.put o.dst (goInt (Nat.min s.size dLen))) (w.setRow g (b8s (spl l off (s.data.toList.take dLen))).toArray)) : wpList P ops Q (o :: rest) a w := by
  refine wpList_plain hgd fun K hK => ?_
  have hrun := run_copy_bytes (P := P) w dT sT o.type elem g off dLen dCap s l t hu hsz h hfit
  unfold Oper.wp
  simp [execOp, ho, resolve, invoke, builtin, hd, hx, hrun, Result.andThen]
  exact hK _ _ k
/-- copy(d, x), x a whole row that fits, d within the row. -/
theorem copyRow {l m : List UInt8} (h : At w g t (b8s l)) {g2 : Nat} {t2 : TypeId} (h2 : At w g2 t2 (b8s m)) (d x : Operand) (dT sT elem : TypeId) (off dLen dCap sCap : Nat) (hgd : o.guard = none)
    (ho : o.op = .call { callee := .builtin .copy, args := #[d, x], argTypes := #[dT, sT] }) (hd : a.eval d = .slice (some ⟨g, off, none⟩) dLen dCap) (hx : a.eval x = .slice (some ⟨g2, 0, none⟩) m.length sCap)
    (hu : P.underlying dT = some (.slice elem)) (hsz : (P.info? elem).map (·.size) = some 1) (hle : m.length ≤ dLen) (hfit : off + m.length ≤ l.length)
    (k : wpList P ops Q rest (a.put o.dst (goInt m.length)) (w.setRow g (b8s (spl l off m)).toArray)) : wpList P ops Q (o :: rest) a w := by
  refine wpList_copy_own hgd d x dT sT ho elem hu hsz g off dLen dCap ⟨g2, 0, none⟩ m.length sCap hd hx (b8s l).toArray t h.heap (b8s m) (by rw [b8s_length]; exact (Nat.min_eq_left hle).symm) ?_ (by simpa using hfit) (one8 m) ?_
  · intro j v hv
    have : (⟨g2, 0, none⟩ : Addr).add j = ⟨g2, j, none⟩ := by rw [Addr.add_mid, Nat.zero_add]
    rw [this]
    exact h2.cell j v hv
  · rw [b8s_length]
    have e : ((b8s l).toArray.toList.take off ++ (b8s m ++ (b8s l).toArray.toList.drop (off + m.length))) = b8s (spl l off m) := by
      rw [← b8s_spl]
      simp only [spl, b8s_length, List.append_assoc]
    rw [e]
    exact k
end
end At
end Go.Proofs.Ytdegeodegjmddaa.Row
