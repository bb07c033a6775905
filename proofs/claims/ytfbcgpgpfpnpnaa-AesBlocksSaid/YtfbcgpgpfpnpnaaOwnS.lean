/- Several bytes, and texts, appended to rows of a call's own. Conditions: as each theorem names them. -/
import Derived.Test.YtfbcgpgpfpnpnaaOwn2
import Derived.Test.YtfbcgpgpfpnpnaaStrs
namespace Go.Proofs.Ytfbcgpgpfpnpnaa.Row
open Go Go.RowKit
set_option maxRecDepth 100000
set_option linter.unusedVariables false
set_option linter.unusedSimpArgs false
theorem own_many (w : World) (e : TypeId) (cs : List Value) : ∀ (j : Nat) (u : Value), cs[j]? = some u → (w.alloc (.cells cs.toArray e (0, 0))).cell? ((⟨w.heap.size, 0, none⟩ : Addr).add j) = some u := by
  intro j u h
  rw [Addr.add_mid, Nat.zero_add, cell_of_row _ _ _ _ _ _ (heap_alloc_new w _)]
  simpa using h
namespace Own
variable {w w' : World} {B : Nat} {v : Value} {xs : List Value} {ops : Array Oper} {rest : List Oper} {o : Oper} {a : Act} {Q : Exit → Act → World → Prop}
/-- append(s, c..), the bytes typed one by one. -/
theorem many8 (h : Own w B 5 v xs) (hB : B ≤ w.heap.size) {cs : List Value} (h1 : ∀ u ∈ cs, u.oneCell' = true) (hgd : o.guard = none) (s x : Operand)
    (ho : o.op = .call { callee := .builtin .append, args := #[s, x], argTypes := #[39, 39] }) (hs : a.eval s = v)
    (hx : a.eval x = .slice (some ⟨w.heap.size, 0, none⟩) cs.length cs.length) (hlen : xs.length + cs.length ≤ 140737488355328)
    (k : ∀ v' w', Own w' B 5 v' (xs ++ cs) → Below B w w' → wpList Try.prog ops Q rest (a.put o.dst v') w') : wpList Try.prog ops Q (o :: rest) a (w.alloc (.cells cs.toArray 5 (0, 0))) := by
  have hB1 : B ≤ (w.alloc (.cells cs.toArray 5 (0, 0))).heap.size := by simp; omega
  exact (h.alloc _).append8 hB1 hgd s x ho hs ⟨w.heap.size, 0, none⟩ cs.length cs.length cs hx rfl (own_many _ _ _) h1 hlen
    (fun v' w' h2 hb _ => k v' w' h2 (((Below.refl B w).alloc hB _).trans hb))
/-- append(s, x), x one text. -/
theorem pushS (h : Own w B 9 v xs) (hB : B ≤ w.heap.size) {c : ByteArray} (hgd : o.guard = none) (s x : Operand)
    (ho : o.op = .call { callee := .builtin .append, args := #[s, x], argTypes := #[30, 30] }) (hs : a.eval s = v)
    (hx : a.eval x = .slice (some ⟨w.heap.size, 0, none⟩) 1 1) (hlen : xs.length + 1 ≤ 8796093022208)
    (k : ∀ v' w', Own w' B 9 v' (xs ++ [.string c]) → Below B w w' → wpList Try.prog ops Q rest (a.put o.dst v') w') : wpList Try.prog ops Q (o :: rest) a (w.alloc (.cells #[.string c] 9 (0, 0))) := by
  have hB1 : B ≤ (w.alloc (.cells #[.string c] 9 (0, 0))).heap.size := by simp; omega
  obtain ⟨i, z, i1, i2, i3, i4, i5⟩ := strInfo
  exact (h.alloc _).append hgd s x 30 ho i z 16 Try.underlying30 i1 i2 i3 i4 i5 hs ⟨w.heap.size, 0, none⟩ 1 1 [.string c] hx rfl (own_one _ _ _) (one1 _ rfl) (by unfold maxLen; omega) (by omega) hB1
    (fun v' w' h2 hg _ => k v' w' h2 (((Below.refl B w).alloc hB _).trans (below_of (v' := v) (h.alloc _) hB1 hg)))
/-- append(s, x), x one text: and whatever lies elsewhere stays. -/
theorem pushSx (h : Own w B 9 v xs) (hB : B ≤ w.heap.size) {c : ByteArray} (hgd : o.guard = none) (s x : Operand)
    (ho : o.op = .call { callee := .builtin .append, args := #[s, x], argTypes := #[30, 30] }) (hs : a.eval s = v)
    (hx : a.eval x = .slice (some ⟨w.heap.size, 0, none⟩) 1 1) (hlen : xs.length + 1 ≤ 8796093022208)
    (k : ∀ v' w', Own w' B 9 v' (xs ++ [.string c]) → Below B w w' → (∀ B2 e2 v2 xs2, Own w B2 e2 v2 xs2 → (v2.ownBlock = none ∨ v2.ownBlock ≠ v.ownBlock) → Own w' B2 e2 v2 xs2) →
      (v'.ownBlock = v.ownBlock ∨ ∃ k, v'.ownBlock = some k ∧ w.heap.size ≤ k) → wpList Try.prog ops Q rest (a.put o.dst v') w') : wpList Try.prog ops Q (o :: rest) a (w.alloc (.cells #[.string c] 9 (0, 0))) := by
  have hB1 : B ≤ (w.alloc (.cells #[.string c] 9 (0, 0))).heap.size := by simp; omega
  obtain ⟨i, z, i1, i2, i3, i4, i5⟩ := strInfo
  refine (h.alloc _).append hgd s x 30 ho i z 16 Try.underlying30 i1 i2 i3 i4 i5 hs ⟨w.heap.size, 0, none⟩ 1 1 [.string c] hx rfl (own_one _ _ _) (one1 _ rfl) (by unfold maxLen; omega) (by omega) hB1 (fun v' w' h2 hg hor => k v' w' h2 (((Below.refl B w).alloc hB _).trans (below_of (v' := v) (h.alloc _) hB1 hg)) (fun B2 e2 v2 xs2 h3 hne => (h3.alloc _).kept hg hne) ?_)
  rcases hor with h4 | ⟨k, h4, h5⟩
  · exact .inl h4
  · exact .inr ⟨k, h4, by simp at h5; omega⟩
end Own
end Go.Proofs.Ytfbcgpgpfpnpnaa.Row
