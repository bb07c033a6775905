/- Slices of strings that a call has made: read, written onto, carried. Conditions: as each theorem names them. -/
import Derived.Test.YtfbcgpgpfpnpnaaRow
namespace Go.Proofs.Ytfbcgpgpfpnpnaa.Row
open Go Go.RowKit
set_option maxRecDepth 100000
set_option linter.unusedVariables false
set_option linter.unusedSimpArgs false

/-- v is a slice of the call's own (its row lies in a block from B on) that holds these strings. -/
def Strs (B : Nat) (v : Value) (l : List ByteArray) (w : World) : Prop := w.ownsRow B 9 1 v l.length (l.map Value.string)
namespace Strs
variable {B : Nat} {v : Value} {l : List ByteArray} {w w' : World}
theorem nil (w : World) (B : Nat) : Strs B (.slice none 0 0) [] w := World.ownsRow_nil w B _ 1
theorem lit (w : World) (B : Nat) (s : ByteArray) (hb : B ≤ w.heap.size) : Strs B (.slice (some ⟨w.heap.size, 0, none⟩) 1 1) [s] (w.alloc (.cells #[.string s] 9 (0, 0))) :=
  World.ownsRow_lit w #[.string s] 1 hb (by decide) rfl
theorem lt (h : Strs B v l w) : ∀ k, v.ownBlock = some k → B ≤ k ∧ k < w.heap.size := World.ownsRow.lt h
theorem below {C : Nat} (h : Strs B v l w) (hb : Below C w w') (hC : w.heap.size ≤ C) : Strs B v l w' := by
  refine World.ownsRow.kept (row := none) h ⟨hb.os, hb.tape, hb.output, hb.size, fun k hk _ => hb.block k (by omega)⟩ ?_
  cases hv : v.ownBlock with
  | none => exact .inl rfl
  | some k => exact .inr (by simp)
theorem alloc (h : Strs B v l w) (o : Obj) : Strs B v l (w.alloc o) := World.ownsRow.alloc h o
theorem form (h : Strs B v l w) (h0 : 0 < l.length) : ∃ g cap, v = .slice (some ⟨g, 0, none⟩) l.length cap := by
  rcases h.2 with ⟨_, h2⟩ | ⟨g, cap, cur, rfl, _⟩
  · omega
  · exact ⟨g, cap, rfl⟩
theorem formN (h : Strs B v l w) {n : Nat} (hn : l.length = n) (h0 : 0 < n) : ∃ g cap, v = .slice (some ⟨g, 0, none⟩) n cap := by
  subst hn; exact h.form h0
theorem forms (h : Strs B v l w) : ∃ a cap, v = .slice a l.length cap := by
  rcases h.2 with ⟨rfl, h2⟩ | ⟨g, cap, cur, rfl, _⟩
  · exact ⟨none, 0, by rw [h2]⟩
  · exact ⟨_, cap, rfl⟩
theorem size_lt (h : Strs B v l w) (h0 : 0 < l.length) {g : Nat} (hv : v.ownBlock = some g) : g < w.heap.size := (h.lt g hv).2
theorem cell {n g cap : Nat} (h : Strs B (.slice (some ⟨g, 0, none⟩) n cap) l w) (i : Nat) (s : ByteArray) (hs : l[i]? = some s) : w.cell? ⟨g, i, none⟩ = some (.string s) := by
  have hn : n = l.length := by
    rcases h.2 with ⟨h1, _⟩ | ⟨_, _, _, h1, _⟩
    · simp at h1
    · simp at h1; exact h1.2.1
  subst hn
  rw [World.ownsRow.cellAt h i (by rw [Nat.mul_one]; exact (List.getElem?_eq_some_iff.1 hs).1)]
  simp [hs]
theorem append {s : ByteArray} (h : w.ownsRow B 9 1 v (l.length + 1) (l.map Value.string ++ [.string s])) : Strs B v (l ++ [s]) w := by
  show w.ownsRow B 9 1 v (l ++ [s]).length ((l ++ [s]).map Value.string)
  rw [List.length_append, List.map_append]
  exact h
end Strs
theorem At.grown {B : Nat} {w w' : World} {g : Nat} {t : TypeId} {cs : List Value} {v : Value} {n : Nat} {xs : List Value} (h : At w g t cs) (hown : w.ownsRow B 9 1 v n xs) (ht : t ≠ 9) (hg : w.grownBy w' v.ownBlock) : At w' g t cs := by
  refine ⟨(hg.block g h.lt (fun e => ?_)).trans h.heap⟩
  rcases hown.2 with ⟨rfl, _⟩ | ⟨k, cap, cur, rfl, _, hk, _⟩
  · simp [Value.ownBlock] at e
  · simp only [Value.ownBlock, Option.some.injEq] at e
    subst e
    rw [h.heap] at hk
    simp only [Option.some.injEq, Obj.cells.injEq] at hk
    exact ht hk.2.1
theorem strInfo : ∃ i z, Try.prog.info? 9 = some i ∧ i.zero = some z ∧ i.size = 1 ∧ i.bytes = 16 ∧ z.cells.size = 1 := by
  have h : ((Try.prog.info? 9).bind fun i => i.zero.bind fun z => if i.size = 1 ∧ i.bytes = 16 ∧ z.cells.size = 1 then some () else none) = some () := by kernel_rfl
  cases hi : Try.prog.info? 9 with
  | none => rw [hi] at h; cases h
  | some i =>
    rw [hi] at h
    cases hz : i.zero with
    | none => simp [hz] at h
    | some z =>
      refine ⟨i, z, rfl, hz, ?_⟩
      simp only [Option.bind_some, hz] at h
      split at h
      · assumption
      · cases h
end Go.Proofs.Ytfbcgpgpfpnpnaa.Row
