/- Bytes and numbers of 32 bits appended to rows of a call's own. Conditions: fewer than 2^47 bytes. -/
import Derived.Test.YtfbcgpgpfpnpnaaOwn
namespace Go.Proofs.Ytfbcgpgpfpnpnaa.Row
open Go Go.RowKit
set_option maxRecDepth 100000
set_option linter.unusedVariables false
set_option linter.unusedSimpArgs false
theorem u8Info : ∃ i z, Try.prog.info? 5 = some i ∧ i.zero = some z ∧ i.size = 1 ∧ i.bytes = 1 ∧ z.cells.size = 1 := by
  have h : ((Try.prog.info? 5).bind fun i => i.zero.bind fun z => if i.size = 1 ∧ i.bytes = 1 ∧ z.cells.size = 1 then some () else none) = some () := by kernel_rfl
  cases hi : Try.prog.info? 5 with
  | none => rw [hi] at h; cases h
  | some i =>
    rw [hi] at h
    cases hz : i.zero with
    | none => simp [hz] at h
    | some z =>
      refine ⟨i, z, rfl, hz, ?_⟩
      simp only [Option.bind_some, hz] at h
      split at h
      · assumption
      · cases h
theorem own_one (w : World) (e : TypeId) (c : Value) : ∀ (j : Nat) (u : Value), [c][j]? = some u → (w.alloc (.cells #[c] e (0, 0))).cell? ((⟨w.heap.size, 0, none⟩ : Addr).add j) = some u := by
  intro j u h
  match j, h with
  | 0, h =>
    simp at h
    subst h
    rw [Addr.add_mid, Nat.zero_add, cell_of_row _ _ _ _ _ _ (heap_alloc_new w _)]
    rfl
theorem one1 (v : Value) (h : v.oneCell' = true) : ∀ u ∈ [v], u.oneCell' = true := by
  intro u hu
  rw [List.mem_singleton.1 hu]
  exact h
theorem b8s_ones (l : List UInt8) : ∀ u ∈ b8s l, u.oneCell' = true := by
  intro u hu
  obtain ⟨b, _, rfl⟩ := List.mem_map.1 hu
  rfl
theorem own_none (w : World) (e : TypeId) {B : Nat} (hB : B ≤ w.heap.size) : Own (w.alloc (.cells #[] e (0, 0))) B e (.slice (some ⟨w.heap.size, 0, none⟩) 0 0) [] := Own.build w [] e hB (by decide)
theorem own_ne {v v' : Value} {g n : Nat} (h : v'.ownBlock = v.ownBlock ∨ ∃ k, v'.ownBlock = some k ∧ n ≤ k) (h1 : v.ownBlock ≠ some g) (h2 : g < n) : v'.ownBlock ≠ some g := by
  rcases h with h | ⟨k, h, hk⟩
  · rw [h]; exact h1
  · rw [h]
    intro e
    have := Option.some.inj e
    omega
namespace Own
theorem cap_le {w : World} {B : Nat} {e : TypeId} {a : Option Addr} {n cap : Nat} {xs : List Value} (h : Own w B e (.slice a n cap) xs) : n ≤ cap := by
  rcases h with ⟨h1, _⟩ | ⟨g', cap', cur, fz, h1, _, _, _, hxc, _⟩
  · simp at h1; omega
  · simp only [Value.slice.injEq] at h1
    obtain ⟨_, rfl, rfl⟩ := h1
    exact hxc
/-- the cells of a part, as append asks them -/
theorem part {w : World} {B : Nat} {e : TypeId} {g n cap : Nat} {xs : List Value} (h : Own w B e (.slice (some ⟨g, 0, none⟩) n cap) xs) (o m : Nat) (hm : o + m ≤ xs.length) : ∀ (j : Nat) (u : Value), ((xs.drop o).take m)[j]? = some u → w.cell? ((⟨g, o, none⟩ : Addr).add j) = some u := by
  intro j u hu
  rw [Addr.add_mid]
  have hj : j < m := by
    have := (List.getElem?_eq_some_iff.1 hu).1
    rw [List.length_take] at this
    omega
  rw [List.getElem?_take, if_pos hj, List.getElem?_drop] at hu
  exact h.cell (o + j) u hu
variable {w w' : World} {B : Nat} {v : Value} {xs : List Value} {ops : Array Oper} {rest : List Oper} {o : Oper} {a : Act} {Q : Exit → Act → World → Prop}
theorem below_of {v' : Value} {e : TypeId} (h : Own w B e v xs) (hB : B ≤ w.heap.size) (hg : w.grownBy w' v.ownBlock) : Below B w w' :=
  (Below.refl B w).grown hg hB (fun k hk => (h.lt k hk).1)
/-- append(s, x..), x a slice of bytes. -/
theorem append8 (h : Own w B 5 v xs) (hB : B ≤ w.heap.size) (hgd : o.guard = none) (s x : Operand)
    (ho : o.op = .call { callee := .builtin .append, args := #[s, x], argTypes := #[39, 39] }) (hs : a.eval s = v)
    (ad : Addr) (m c : Nat) (news : List Value) (hx : a.eval x = .slice (some ad) m c) (hl : news.length = m) (hnews : ∀ j u, news[j]? = some u → w.cell? (ad.add j) = some u) (h1 : ∀ u ∈ news, u.oneCell' = true)
    (hlen : xs.length + m ≤ 140737488355328)
    (k : ∀ v' w', Own w' B 5 v' (xs ++ news) → Below B w w' → w.grownBy w' v.ownBlock → wpList Try.prog ops Q rest (a.put o.dst v') w') : wpList Try.prog ops Q (o :: rest) a w := by
  obtain ⟨i, z, i1, i2, i3, i4, i5⟩ := u8Info
  exact h.append hgd s x 39 ho i z 1 Try.underlying39 i1 i2 i3 i4 i5 hs ad m c news hx hl hnews h1 (by unfold maxLen; omega) (by omega) hB
    (fun v' w' h2 hg _ => k v' w' h2 (below_of (v' := v) h hB hg) hg)
/-- append(s, c), c one byte. -/
theorem push8 (h : Own w B 5 v xs) (hB : B ≤ w.heap.size) {c : Int} (hgd : o.guard = none) (s x : Operand)
    (ho : o.op = .call { callee := .builtin .append, args := #[s, x], argTypes := #[39, 39] }) (hs : a.eval s = v)
    (hx : a.eval x = .slice (some ⟨w.heap.size, 0, none⟩) 1 1) (hlen : xs.length + 1 ≤ 140737488355328)
    (k : ∀ v' w', Own w' B 5 v' (xs ++ [.int .u8 c]) → Below B w w' → wpList Try.prog ops Q rest (a.put o.dst v') w') : wpList Try.prog ops Q (o :: rest) a (w.alloc (.cells #[.int .u8 c] 5 (0, 0))) := by
  have hB1 : B ≤ (w.alloc (.cells #[.int .u8 c] 5 (0, 0))).heap.size := by simp; omega
  exact (h.alloc _).append8 hB1 hgd s x ho hs ⟨w.heap.size, 0, none⟩ 1 1 [.int .u8 c] hx rfl (own_one _ _ _) (one1 _ rfl) hlen
    (fun v' w' h2 hb _ => k v' w' h2 (((Below.refl B w).alloc hB _).trans hb))
/-- append(s, c), c one byte: and whatever lies elsewhere stays. -/
theorem push8x (h : Own w B 5 v xs) (hB : B ≤ w.heap.size) {c : Int} (hgd : o.guard = none) (s x : Operand)
    (ho : o.op = .call { callee := .builtin .append, args := #[s, x], argTypes := #[39, 39] }) (hs : a.eval s = v)
    (hx : a.eval x = .slice (some ⟨w.heap.size, 0, none⟩) 1 1) (hlen : xs.length + 1 ≤ 140737488355328)
    (k : ∀ v' w', Own w' B 5 v' (xs ++ [.int .u8 c]) → Below B w w' → (∀ B2 e2 v2 xs2, Own w B2 e2 v2 xs2 → (v2.ownBlock = none ∨ v2.ownBlock ≠ v.ownBlock) → Own w' B2 e2 v2 xs2) →
      (v'.ownBlock = v.ownBlock ∨ ∃ k, v'.ownBlock = some k ∧ w.heap.size ≤ k) → wpList Try.prog ops Q rest (a.put o.dst v') w') : wpList Try.prog ops Q (o :: rest) a (w.alloc (.cells #[.int .u8 c] 5 (0, 0))) := by
  have hB1 : B ≤ (w.alloc (.cells #[.int .u8 c] 5 (0, 0))).heap.size := by simp; omega
  obtain ⟨i, z, i1, i2, i3, i4, i5⟩ := u8Info
  refine (h.alloc _).append hgd s x 39 ho i z 1 Try.underlying39 i1 i2 i3 i4 i5 hs ⟨w.heap.size, 0, none⟩ 1 1 [.int .u8 c] hx rfl (own_one _ _ _) (one1 _ rfl) (by unfold maxLen; omega) (by omega) hB1 (fun v' w' h2 hg hor => k v' w' h2 (((Below.refl B w).alloc hB _).trans (below_of (v' := v) (h.alloc _) hB1 hg)) (fun B2 e2 v2 xs2 h3 hne => (h3.alloc _).kept hg hne) ?_)
  rcases hor with h4 | ⟨k, h4, h5⟩
  · exact .inl h4
  · exact .inr ⟨k, h4, by simp at h5; omega⟩
end Own
end Go.Proofs.Ytfbcgpgpfpnpnaa.Row
