/- A row of bytes with more behind it: what a string's bytes are converted to. Conditions: as each theorem names them. -/
import Derived.Test.YtbafbpfpnfnikaaRow
import Derived.Lib.AtoiErrMem
namespace Go.Proofs.Ytbafbpfpnfnikaa.Row
open Go.RowKit
set_option linter.unusedVariables false
/-- The block's first cells are these bytes; whatever is frozen stands behind them. -/
def Buf (w : World) (g : Nat) (t : TypeId) (l : List UInt8) : Prop := ∃ tail fz, w.heap[g]? = some (.cells (b8s l ++ tail).toArray t fz) ∧ (l.length ≤ fz.1 ∨ fz = (0, 0))
namespace Buf
variable {w w' : World} {g : Nat} {t : TypeId} {l : List UInt8}
theorem lt (h : Buf w g t l) : g < w.heap.size := by
  obtain ⟨tail, fz, h, _⟩ := h
  exact (Array.getElem?_eq_some_iff.1 h).1
theorem cell8 (h : Buf w g t l) (j : Nat) (hj : j < l.length) : w.cell? ⟨g, j, none⟩ = some (.int .u8 ((gb l j).toNat : Int)) := by
  obtain ⟨tail, fz, h, _⟩ := h
  rw [cell_of_row w g j _ _ _ h]
  simp only [List.getElem?_toArray]
  rw [List.getElem?_append_left (by rw [b8s_length]; exact hj), b8s_get _ _ hj]
theorem frozen (h : Buf w g t l) (j : Nat) (hj : j < l.length) : w.frozen? ⟨g, j, none⟩ = false := by
  obtain ⟨tail, fz, h, hf⟩ := h
  simp only [World.frozen?, h]
  rcases hf with hf | rfl
  · simp; omega
  · simp
theorem set8 (h : Buf w g t l) (j : Nat) (hj : j < l.length) (b : UInt8) : Buf (w.setCell ⟨g, j, none⟩ (.int .u8 (b.toNat : Int))) g t (l.set j b) := by
  obtain ⟨tail, fz, h, hf⟩ := h
  refine ⟨tail, fz, ?_, by rw [List.length_set]; exact hf⟩
  have e : (w.setCell ⟨g, j, none⟩ (.int .u8 (b.toNat : Int))).heap[g]? = some (.cells ((b8s l ++ tail).toArray.setIfInBounds j (.int .u8 (b.toNat : Int))) t fz) := by
    simp [World.setCell, Array.getElem?_modify, h]
  rw [e]
  congr 2
  rw [← b8s_set, ← List.set_append_left _ _ (by rw [b8s_length]; exact hj)]
  simp
theorem other (h : Buf w g t l) (a : Addr) (v : Value) (ha : g ≠ a.block) : Buf (w.setCell a v) g t l := by
  obtain ⟨tail, fz, h, hf⟩ := h
  exact ⟨tail, fz, (heap_setCell_other w a g v ha).trans h, hf⟩
theorem below {B : Nat} (h : Buf w g t l) (hb : Below B w w') (hg : g < B) : Buf w' g t l := by
  obtain ⟨tail, fz, h, hf⟩ := h
  exact ⟨tail, fz, (hb.block g hg).trans h, hf⟩
theorem go (h : Buf w g t l) (hb : Below w.heap.size w w') : Buf w' g t l := h.below hb h.lt
theorem drew (h : Buf w g t l) : Buf w.drew g t l := h
theorem ofString (w : World) (t : TypeId) (s : ByteArray) : Buf (Lib.bytesWorld w t s) w.heap.size t s.data.toList := by
  have h := Lib.bytesWorld_at_new w t s
  have e : Lib.bytesCells w t s = (b8s s.data.toList ++ List.replicate (grownCap w s.size 0 t - s.size) (Value.int .u8 0)).toArray := by
    apply Array.toList_inj.1
    simp [Lib.bytesCells, b8s]
    intro a _
    rfl
  refine ⟨List.replicate (grownCap w s.size 0 t - s.size) (.int .u8 0), ((Lib.bytesCells w t s).size, (Lib.bytesCells w t s).size + 1), ?_, .inl ?_⟩
  · rw [h, ← e]
  · rw [e]
    simp
end Buf
end Go.Proofs.Ytbafbpfpnfnikaa.Row
