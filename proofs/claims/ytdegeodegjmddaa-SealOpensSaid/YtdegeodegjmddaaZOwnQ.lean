/- Rows of one-cell elements that a call has made, whose frozen range (if any) lies behind them: read, written, appended to. Conditions: as each theorem names them. Bytes and numbers of 32 bits appended to rows of a call's own. Conditions: fewer than 2^47 bytes. Numbers of 32 bits appended to rows of a call's own. Conditions: fewer than 2^45 numbers. Several bytes, and texts, appended to rows of a call's own. Conditions: as each theorem names them. A region that draws its order, whose first operation is a bare move that only the end of the region waits for, whose next operations only read, and whose last operations come up one behind the other. Conditions: as the theorem names them. A slice of strings that came in: read, where nothing below the call's own memory has changed. Conditions: as each theorem names them. -/
import Derived.Test.YtdegeodegjmddaaZRowQ
import Derived.Lib.FrozenHead2
import Derived.Lib.AtoiErrMem
import Derived.StillTailTactics
import Derived.Orders
import Derived.SizedLaws
import Derived.Deep.Strs
import Derived.ChangeSlices
set_option linter.unusedVariables false
set_option linter.unusedSimpArgs false
namespace Go.Proofs.Ytdegeodegjmddaa.Row
open Go Go.RowKit
set_option maxRecDepth 100000
set_option linter.unusedVariables false
set_option linter.unusedSimpArgs false
/-- v is a slice of the call's own that holds these cells. -/
def Own (w : World) (B : Nat) (e : TypeId) (v : Value) (xs : List Value) : Prop :=
  (v = .slice none 0 0 ∧ xs = []) ∨ ∃ g cap cur fz, v = .slice (some ⟨g, 0, none⟩) xs.length cap ∧ B ≤ g ∧ w.heap[g]? = some (.cells cur e fz) ∧ (cap ≤ fz.1 ∨ fz = (0, 0)) ∧ xs.length ≤ cap ∧ cap ≤ maxLen ∧ cur.size = cap ∧ cur.toList.take xs.length = xs
theorem storeG (P : Program) (g o : Nat) (t : TypeId) (fz : Nat × Nat) : ∀ (vs : List Value) (i : Nat) (cur : Array Value) (w : World), w.heap[g]? = some (.cells cur t fz) → (cur.size ≤ fz.1 ∨ fz = (0, 0)) → o + i + vs.length ≤ cur.size → (∀ v ∈ vs, v.oneCell' = true) →
    (storeCells ⟨g, o, none⟩ vs i).run P w = .ok () (w.setRow g (cur.toList.take (o + i) ++ vs ++ cur.toList.drop (o + i + vs.length)).toArray)
  | [], i, cur, w, hg, _, _, _ => by
    simp only [storeCells, List.append_nil, List.length_nil, Nat.add_zero, List.take_append_drop, Array.toArray_toList]
    rw [setRow_self w g cur t fz hg]
    rfl
  | v :: rest, i, cur, w, hg, hfz, hl, h1 => by
    have hi : o + i < cur.size := by simp at hl; omega
    have hadd : (⟨g, o, none⟩ : Addr).add i = ⟨g, o + i, none⟩ := by unfold Addr.add; split <;> simp_all
    have hcell : w.cell? ⟨g, o + i, none⟩ = some cur[o + i] := by simp [World.cell?, hg, hi]
    have hfro : w.frozen? ⟨g, o + i, none⟩ = false := by
      obtain ⟨lo, hi'⟩ := fz
      simp only [World.frozen?, hg, Bool.and_eq_false_iff, decide_eq_false_iff_not]
      rcases hfz with hfz | hfz
      · left
        simp only at hfz
        omega
      · right
        simp only [Prod.mk.injEq] at hfz
        omega
    have hst : (store ((⟨g, o, none⟩ : Addr).add i) v).run P w = .ok () (w.setRow g (cur.setIfInBounds (o + i) v)) := by
      rw [hadd, run_store P w _ v _ (h1 v (by simp)), hcell]
      simp [hfro, setCell_eq_setRow w g (o + i) cur t fz v hg]
    have ih := storeG P g o t fz rest (i + 1) (cur.setIfInBounds (o + i) v) (w.setRow g (cur.setIfInBounds (o + i) v)) (setRow_heap w g cur _ t _ hg) (by simpa using hfz) (by simp at hl ⊢; omega) (fun x hx => h1 x (by simp [hx]))
    simp only [storeCells, Sem.run_bind, hst, Result.andThen_ok, ih, setRow_setRow]
    congr 3
    have e := list_seg_step cur.toList (o + i) v rest (by simp at hl ⊢; omega)
    simpa [Array.toList_setIfInBounds, Nat.add_assoc] using e
namespace Own
variable {P : Program} {w w' : World} {B : Nat} {e : TypeId} {v : Value} {xs : List Value}
theorem nil (w : World) (B : Nat) (e : TypeId) : Own w B e (.slice none 0 0) [] := .inl ⟨rfl, rfl⟩
theorem lt (h : Own w B e v xs) : ∀ k, v.ownBlock = some k → B ≤ k ∧ k < w.heap.size := by
  intro k hk
  rcases h with ⟨rfl, _⟩ | ⟨g, cap, cur, fz, rfl, hb, hg, _⟩
  · simp [Value.ownBlock] at hk
  · simp [Value.ownBlock] at hk
    subst hk
    exact ⟨hb, (Array.getElem?_eq_some_iff.1 hg).1⟩
theorem typed (h : Own w B e v xs) : ∀ k, v.ownBlock = some k → ∃ cs fz, w.heap[k]? = some (.cells cs e fz) := by
  intro k hk
  rcases h with ⟨rfl, _⟩ | ⟨g, cap, cur, fz, rfl, hb, hg, _⟩
  · simp [Value.ownBlock] at hk
  · simp [Value.ownBlock] at hk
    subst hk
    exact ⟨_, _, hg⟩
theorem kept {row : Option Nat} (h : Own w B e v xs) (hg : w.grownBy w' row) (hne : v.ownBlock = none ∨ v.ownBlock ≠ row) : Own w' B e v xs := by
  rcases h with hn | ⟨g, cap, cur, fz, rfl, hb, hgg, rest⟩
  · exact .inl hn
  · refine .inr ⟨g, cap, cur, fz, rfl, hb, ?_, rest⟩
    rw [hg.block g (Array.getElem?_eq_some_iff.1 hgg).1 (by simpa [Value.ownBlock] using hne)]
    exact hgg
theorem below {C : Nat} (h : Own w B e v xs) (hb : Below C w w') (hC : w.heap.size ≤ C) : Own w' B e v xs := by
  refine h.kept (row := none) ⟨hb.os, hb.tape, hb.output, hb.size, fun k hk _ => hb.block k (by omega)⟩ ?_
  cases hv : v.ownBlock with
  | none => exact .inl rfl
  | some k => exact .inr (by simp)
theorem go (h : Own w B e v xs) (hb : Below w.heap.size w w') : Own w' B e v xs := h.below hb (Nat.le_refl _)
theorem alloc (h : Own w B e v xs) (o : Obj) : Own (w.alloc o) B e v xs := h.go ((Below.refl _ w).alloc (Nat.le_refl _) o)
theorem drew (h : Own w B e v xs) : Own w.drew B e v xs := h
theorem mono {C : Nat} (h : Own w B e v xs) (hC : C ≤ B) : Own w C e v xs := by
  rcases h with hn | ⟨g, cap, cur, fz, hv, hb, rest⟩
  · exact .inl hn
  · exact .inr ⟨g, cap, cur, fz, hv, Nat.le_trans hC hb, rest⟩
theorem form (h : Own w B e v xs) {n : Nat} (hn : xs.length = n) (h0 : 0 < n) : ∃ g cap, v = .slice (some ⟨g, 0, none⟩) n cap ∧ B ≤ g ∧ g < w.heap.size := by
  subst hn
  rcases h with ⟨_, h2⟩ | ⟨g, cap, cur, fz, rfl, hb, hg, _⟩
  · rw [h2] at h0; simp at h0
  · exact ⟨g, cap, rfl, hb, (Array.getElem?_eq_some_iff.1 hg).1⟩
theorem forms (h : Own w B e v xs) {n : Nat} (hn : xs.length = n) : ∃ a cap, v = .slice a n cap := by
  subst hn
  rcases h with ⟨rfl, h2⟩ | ⟨g, cap, cur, fz, rfl, _⟩
  · exact ⟨none, 0, by rw [h2]; rfl⟩
  · exact ⟨_, cap, rfl⟩
theorem cell {g n cap : Nat} (h : Own w B e (.slice (some ⟨g, 0, none⟩) n cap) xs) (j : Nat) (u : Value) (hu : xs[j]? = some u) : w.cell? ⟨g, j, none⟩ = some u := by
  rcases h with ⟨h1, _⟩ | ⟨g', cap', cur, fz, h1, _, hgg, _, _, _, _, htake⟩
  · simp at h1
  · simp only [Value.slice.injEq, Option.some.injEq, Addr.mk.injEq, and_true] at h1
    obtain ⟨rfl, rfl, rfl⟩ := h1
    rw [cell_of_row w g j cur e fz hgg]
    rw [← htake, List.getElem?_take] at hu
    split at hu
    · simpa using hu
    · cases hu
theorem frozen {g n cap : Nat} (h : Own w B e (.slice (some ⟨g, 0, none⟩) n cap) xs) (j : Nat) (hj : j < xs.length) : w.frozen? ⟨g, j, none⟩ = false := by
  rcases h with ⟨h1, _⟩ | ⟨g', cap', cur, fz, h1, _, hgg, hfz, hxc, _, hcs, _⟩
  · simp at h1
  · simp only [Value.slice.injEq, Option.some.injEq, Addr.mk.injEq, and_true] at h1
    obtain ⟨rfl, rfl, rfl⟩ := h1
    obtain ⟨lo, hi'⟩ := fz
    simp only [World.frozen?, hgg, Bool.and_eq_false_iff, decide_eq_false_iff_not]
    rcases hfz with hfz | hfz
    · left
      simp only at hfz
      omega
    · right
      simp only [Prod.mk.injEq] at hfz
      omega
theorem set {g n cap : Nat} (h : Own w B e (.slice (some ⟨g, 0, none⟩) n cap) xs) (j : Nat) (hj : j < xs.length) (u : Value) : Own (w.setCell ⟨g, j, none⟩ u) B e (.slice (some ⟨g, 0, none⟩) n cap) (xs.set j u) := by
  rcases h with ⟨h1, _⟩ | ⟨g', cap', cur, fz, h1, hb, hgg, hfz, hxc, hcm, hcs, htake⟩
  · simp at h1
  · simp only [Value.slice.injEq, Option.some.injEq, Addr.mk.injEq, and_true] at h1
    obtain ⟨rfl, rfl, rfl⟩ := h1
    refine .inr ⟨g, cap, cur.setIfInBounds j u, fz, by rw [List.length_set], hb, ?_, hfz, by rw [List.length_set]; exact hxc, hcm, by rw [Array.size_setIfInBounds]; exact hcs, ?_⟩
    · rw [setCell_eq_setRow w g j cur e fz u hgg]
      exact setRow_heap w g cur _ e _ hgg
    · rw [List.length_set, Array.toList_setIfInBounds, List.take_set, htake]
theorem other {a : Addr} (h : Own w B e v xs) (u : Value) (ha : v.ownBlock ≠ some a.block) : Own (w.setCell a u) B e v xs := by
  rcases h with hn | ⟨g, cap, cur, fz, rfl, hb, hgg, rest⟩
  · exact .inl hn
  · refine .inr ⟨g, cap, cur, fz, rfl, hb, ?_, rest⟩
    exact (heap_setCell_other w a g u (by simpa [Value.ownBlock] using ha)).trans hgg
theorem build (w : World) (cs : List Value) (e : TypeId) {B : Nat} (hB : B ≤ w.heap.size) (hm : cs.length ≤ maxLen) : Own (w.alloc (.cells cs.toArray e (0, 0))) B e (.slice (some ⟨w.heap.size, 0, none⟩) cs.length cs.length) cs :=
  .inr ⟨w.heap.size, cs.length, cs.toArray, (0, 0), rfl, hB, heap_alloc_new w _, .inr rfl, Nat.le_refl _, hm, by simp, by simp⟩
theorem ofString (w : World) (e : TypeId) (s : ByteArray) {B : Nat} (hB : B ≤ w.heap.size) (hs : s.size ≤ maxLen) : Own (Lib.bytesWorld w e s) B e (.slice (some ⟨w.heap.size, 0, none⟩) s.size (grownCap w s.size 0 e)) (b8s s.data.toList) := by
  have hl : (b8s s.data.toList).length = s.size := by rw [b8s_length]; exact Array.length_toList
  have hge := grownCap_ge w s.size 0 e
  have e1 : Lib.bytesCells w e s = (b8s s.data.toList ++ List.replicate (grownCap w s.size 0 e - s.size) (Value.int .u8 0)).toArray := by
    apply Array.toList_inj.1
    simp [Lib.bytesCells, b8s]
    intro a _
    rfl
  have hsz : (Lib.bytesCells w e s).size = grownCap w s.size 0 e := by
    rw [e1]
    simp only [List.size_toArray, List.length_append, hl, List.length_replicate]
    omega
  refine .inr ⟨w.heap.size, grownCap w s.size 0 e, Lib.bytesCells w e s, _, by rw [hl], hB, Lib.bytesWorld_at_new w e s, .inl (by rw [← hsz]; exact Nat.le_refl _), by rw [hl]; exact hge, grownCap_le_maxLen w s.size 0 e hs, hsz, ?_⟩
  rw [e1, hl]
  show List.take s.size (b8s s.data.toList ++ List.replicate (grownCap w s.size 0 e - s.size) (Value.int .u8 0)) = b8s s.data.toList
  rw [List.take_append_of_le_length (by omega), List.take_of_length_le (by omega)]
theorem run_append (h : Own w B e v xs) (t ty : TypeId) (i : TypeInfo) (z : Value) (bytes : Nat) (ht : P.underlying t = some (.slice e)) (hi : P.info? e = some i) (hz : i.zero = some z)
    (hsize : i.size = 1) (hby : i.bytes = bytes) (hzs : z.cells.size = 1)
    (a : Addr) (m c : Nat) (news : List Value) (hl : news.length = m) (hnews : ∀ j u, news[j]? = some u → w.cell? (a.add j) = some u) (h1 : ∀ u ∈ news, u.oneCell' = true)
    (h63 : xs.length + m ≤ maxLen) (hbytes : (xs.length + m) * bytes ≤ 140737488355328) (hbase : B ≤ w.heap.size) :
    ∃ v' w', (Builtin.append_ #[t, t] ty #[v, .slice (some a) m c]).run P w = .ok v' w' ∧ Own w' B e v' (xs ++ news) ∧ w.grownBy w' v.ownBlock ∧ (v'.ownBlock = v.ownBlock ∨ ∃ k, v'.ownBlock = some k ∧ w.heap.size ≤ k) := by
  rcases h with ⟨rfl, rfl⟩ | ⟨g, cap, cur, fz, rfl, hbg, hg, hfz, hnc, hcm, hcs, htake⟩
  · obtain ⟨v', w', r1, r2, r3, r4⟩ := run_append_own (P := P) w w.heap.size t ty e i z 1 bytes ht hi hz hsize hby hzs (by decide) (.slice none 0 0) 0 [] ⟨rfl, .inl ⟨rfl, rfl⟩⟩ a m c news (by omega) hnews h1 (by simpa using h63) (by simpa using hbytes) (Nat.le_refl _)
    refine ⟨v', w', r1, ?_, r3, ?_⟩
    · rcases r2.2 with ⟨h1, h2⟩ | ⟨g, cap, cur, h1, h2, h3, h4, h5, h6, h7⟩
      · refine .inl ⟨h1, ?_⟩
        have := r2.1
        rw [h2] at this
        simpa using this
      · refine .inr ⟨g, cap, cur, (0, 0), ?_, Nat.le_trans hbase h2, h3, .inr rfl, ?_, h5, by simpa using h6, ?_⟩
        · rw [h1]; congr 1; simp [hl]
        · simp [hl]; omega
        · have e2 : (([] : List Value) ++ news).length = (0 + m) * 1 := by simp [hl]
          rw [e2]; exact h7
    · rcases r2.2 with ⟨h1, h2⟩ | ⟨g, cap, cur, h1, h2, h3, h4, h5, h6, h7⟩
      · left; rw [h1]
      · right; exact ⟨g, by rw [h1]; rfl, h2⟩
  · subst hby
    have hlen : (xs ++ news).length = xs.length + m := by rw [List.length_append, hl]
    by_cases hroom : xs.length + m ≤ cap
    · have hf := run_firstCells_some (P := P) w i.size m a m c news (by rw [hsize]; omega) hnews
      have hst := storeG P g (xs.length * i.size) e fz news 0 cur w hg (by rw [hcs]; exact hfz) (by rw [hsize, hcs, hl]; omega) h1
      simp only [Nat.add_zero] at hst
      have hr : (Builtin.append_ #[t, t] ty #[.slice (some ⟨g, 0, none⟩) xs.length cap, .slice (some a) m c]).run P w = .ok (.slice (some ⟨g, 0, none⟩) (xs.length + m) cap) (w.setRow g (cur.toList.take (xs.length * i.size) ++ news ++ cur.toList.drop (xs.length * i.size + news.length)).toArray) := by
        simp [Builtin.append_, run_underlying ht, sizeOf, typeInfo, hi, Builtin.lenOf, hroom, hf, Addr.add_lit, hst]
      refine ⟨_, _, hr, .inr ⟨g, cap, _, fz, by rw [hlen], hbg, setRow_heap w g cur _ e _ hg, hfz, by rw [hlen]; exact hroom, hcm, ?_, ?_⟩, ⟨rfl, rfl, rfl, by simp, fun k _ hk => setRow_other w g k _ (fun e => hk (by simp [Value.ownBlock, e]))⟩, .inl rfl⟩
      · simp only [List.size_toArray, List.length_append, List.length_take, List.length_drop, Array.length_toList]
        rw [hsize]
        omega
      · rw [hsize, Nat.mul_one, htake]
        simp only [List.append_assoc]
        rw [← List.append_assoc]
        exact List.take_left
    · have holds : ∀ j u, xs[j]? = some u → w.cell? ((⟨g, 0, none⟩ : Addr).add j) = some u := fun j u hu => by
        have hadd : (⟨g, 0, none⟩ : Addr).add j = ⟨g, j, none⟩ := by unfold Addr.add; split <;> simp_all
        rw [hadd]
        exact cell (B := B) (e := e) (n := xs.length) (cap := cap) (.inr ⟨g, cap, cur, fz, rfl, hbg, hg, hfz, hnc, hcm, hcs, htake⟩) j u hu
      have hr := run_append_grow (P := P) w t ty e i z ht hi hz ⟨g, 0, none⟩ xs.length cap xs (by rw [hsize]; omega) holds a m c news (by rw [hsize]; omega) hnews (by omega) (by simp only [maxLen] at h63; omega) (growslice_fits (by simp only [maxLen] at h63; omega) hbytes)
      have hge := grownCap_ge w (xs.length + m) cap e
      have hcm2 : grownCap w (xs.length + m) cap e ≤ maxLen := grownCap_le_maxLen w (xs.length + m) cap e h63
      refine ⟨_, _, hr, .inr ⟨w.heap.size, _, _, (0, 0), by rw [hlen], hbase, heap_alloc_new w.drew _, .inr rfl, by rw [hlen]; exact hge, hcm2, ?_, ?_⟩, ⟨rfl, rfl, rfl, by simp, fun k hk _ => Below.heap_alloc w.drew _ k hk⟩, .inr ⟨w.heap.size, rfl, Nat.le_refl _⟩⟩
      · simp only [Array.size_append, List.size_toArray, size_zeroCells, hzs, hl]
        omega
      · simp only [Array.toList_append, List.append_assoc]
        rw [← List.append_assoc]
        exact List.take_left
theorem append {ops : Array Oper} {rest : List Oper} {o : Oper} {a : Act} {Q : Exit → Act → World → Prop} (h : Own w B e v xs) (hgd : o.guard = none) (s x : Operand) (t : TypeId)
    (ho : o.op = .call { callee := .builtin .append, args := #[s, x], argTypes := #[t, t] })
    (i : TypeInfo) (z : Value) (bytes : Nat) (ht : P.underlying t = some (.slice e)) (hi : P.info? e = some i) (hz : i.zero = some z)
    (hsize : i.size = 1) (hby : i.bytes = bytes) (hzs : z.cells.size = 1) (hs : a.eval s = v)
    (ad : Addr) (m c : Nat) (news : List Value) (hx : a.eval x = .slice (some ad) m c) (hl : news.length = m) (hnews : ∀ j u, news[j]? = some u → w.cell? (ad.add j) = some u) (h1 : ∀ u ∈ news, u.oneCell' = true)
    (h63 : xs.length + m ≤ maxLen) (hbytes : (xs.length + m) * bytes ≤ 140737488355328) (hbase : B ≤ w.heap.size)
    (k : ∀ v' w', Own w' B e v' (xs ++ news) → w.grownBy w' v.ownBlock → (v'.ownBlock = v.ownBlock ∨ ∃ k, v'.ownBlock = some k ∧ w.heap.size ≤ k) → wpList P ops Q rest (a.put o.dst v') w') : wpList P ops Q (o :: rest) a w := by
  refine wpList_plain hgd fun K hK => ?_
  obtain ⟨v', w', hr, h2, h3, h4⟩ := run_append (P := P) h t o.type i z bytes ht hi hz hsize hby hzs ad m c news hl hnews h1 h63 hbytes hbase
  unfold Oper.wp execOp
  simp only [ho, resolve, invoke, builtin, Sem.run_bind, Sem.run_pure, Result.andThen_ok, List.map_toArray, List.map_cons, List.map_nil, hs, hx, hr]
  exact hK _ _ (k v' w' h2 h3 h4)
end Own
end Go.Proofs.Ytdegeodegjmddaa.Row

namespace Go.Proofs.Ytdegeodegjmddaa.Row
open Go Go.RowKit
set_option maxRecDepth 100000
set_option linter.unusedVariables false
set_option linter.unusedSimpArgs false
theorem u8Info : ∃ i z, Try.prog.info? 5 = some i ∧ i.zero = some z ∧ i.size = 1 ∧ i.bytes = 1 ∧ z.cells.size = 1 := by
  have h : ((Try.prog.info? 5).bind fun i => i.zero.bind fun z => if i.size = 1 ∧ i.bytes = 1 ∧ z.cells.size = 1 then some () else none) = some () := by kernel_rfl
  cases hi : Try.prog.info? 5 with
  | none => rw [hi] at h; cases h
  | some i =>
    rw [hi] at h
    cases hz : i.zero with
    | none => simp [hz] at h
    | some z =>
      refine ⟨i, z, rfl, hz, ?_⟩
      simp only [Option.bind_some, hz] at h
      split at h
      · assumption
      · cases h
theorem own_one (w : World) (e : TypeId) (c : Value) : ∀ (j : Nat) (u : Value), [c][j]? = some u → (w.alloc (.cells #[c] e (0, 0))).cell? ((⟨w.heap.size, 0, none⟩ : Addr).add j) = some u := by
  intro j u h
  match j, h with
  | 0, h =>
    simp at h
    subst h
    rw [Addr.add_mid, Nat.zero_add, cell_of_row _ _ _ _ _ _ (heap_alloc_new w _)]
    rfl
theorem one1 (v : Value) (h : v.oneCell' = true) : ∀ u ∈ [v], u.oneCell' = true := by
  intro u hu
  rw [List.mem_singleton.1 hu]
  exact h
theorem b8s_ones (l : List UInt8) : ∀ u ∈ b8s l, u.oneCell' = true := by
  intro u hu
  obtain ⟨b, _, rfl⟩ := List.mem_map.1 hu
  rfl
theorem own_none (w : World) (e : TypeId) {B : Nat} (hB : B ≤ w.heap.size) : Own (w.alloc (.cells #[] e (0, 0))) B e (.slice (some ⟨w.heap.size, 0, none⟩) 0 0) [] := Own.build w [] e hB (by decide)
theorem own_ne {v v' : Value} {g n : Nat} (h : v'.ownBlock = v.ownBlock ∨ ∃ k, v'.ownBlock = some k ∧ n ≤ k) (h1 : v.ownBlock ≠ some g) (h2 : g < n) : v'.ownBlock ≠ some g := by
  rcases h with h | ⟨k, h, hk⟩
  · rw [h]; exact h1
  · rw [h]
    intro e
    have := Option.some.inj e
    omega
namespace Own
theorem cap_le {w : World} {B : Nat} {e : TypeId} {a : Option Addr} {n cap : Nat} {xs : List Value} (h : Own w B e (.slice a n cap) xs) : n ≤ cap := by
  rcases h with ⟨h1, _⟩ | ⟨g', cap', cur, fz, h1, _, _, _, hxc, _⟩
  · simp at h1; omega
  · simp only [Value.slice.injEq] at h1
    obtain ⟨_, rfl, rfl⟩ := h1
    exact hxc
/-- the cells of a part, as append asks them -/
theorem part {w : World} {B : Nat} {e : TypeId} {g n cap : Nat} {xs : List Value} (h : Own w B e (.slice (some ⟨g, 0, none⟩) n cap) xs) (o m : Nat) (hm : o + m ≤ xs.length) : ∀ (j : Nat) (u : Value), ((xs.drop o).take m)[j]? = some u → w.cell? ((⟨g, o, none⟩ : Addr).add j) = some u := by
  intro j u hu
  rw [Addr.add_mid]
  have hj : j < m := by
    have := (List.getElem?_eq_some_iff.1 hu).1
    rw [List.length_take] at this
    omega
  rw [List.getElem?_take, if_pos hj, List.getElem?_drop] at hu
  exact h.cell (o + j) u hu
variable {w w' : World} {B : Nat} {v : Value} {xs : List Value} {ops : Array Oper} {rest : List Oper} {o : Oper} {a : Act} {Q : Exit → Act → World → Prop}
theorem below_of {v' : Value} {e : TypeId} (h : Own w B e v xs) (hB : B ≤ w.heap.size) (hg : w.grownBy w' v.ownBlock) : Below B w w' :=
  (Below.refl B w).grown hg hB (fun k hk => (h.lt k hk).1)
/-- append(s, x..), x a slice of bytes. -/
theorem append8 (h : Own w B 5 v xs) (hB : B ≤ w.heap.size) (hgd : o.guard = none) (s x : Operand)
    (ho : o.op = .call { callee := .builtin .append, args := #[s, x], argTypes := #[43, 43] }) (hs : a.eval s = v)
    (ad : Addr) (m c : Nat) (news : List Value) (hx : a.eval x = .slice (some ad) m c) (hl : news.length = m) (hnews : ∀ j u, news[j]? = some u → w.cell? (ad.add j) = some u) (h1 : ∀ u ∈ news, u.oneCell' = true)
    (hlen : xs.length + m ≤ 140737488355328)
    (k : ∀ v' w', Own w' B 5 v' (xs ++ news) → Below B w w' → w.grownBy w' v.ownBlock → wpList Try.prog ops Q rest (a.put o.dst v') w') : wpList Try.prog ops Q (o :: rest) a w := by
  obtain ⟨i, z, i1, i2, i3, i4, i5⟩ := u8Info
  exact h.append hgd s x 43 ho i z 1 Try.underlying43 i1 i2 i3 i4 i5 hs ad m c news hx hl hnews h1 (by unfold maxLen; omega) (by omega) hB
    (fun v' w' h2 hg _ => k v' w' h2 (below_of (v' := v) h hB hg) hg)
/-- append(s, c), c one byte. -/
theorem push8 (h : Own w B 5 v xs) (hB : B ≤ w.heap.size) {c : Int} (hgd : o.guard = none) (s x : Operand)
    (ho : o.op = .call { callee := .builtin .append, args := #[s, x], argTypes := #[43, 43] }) (hs : a.eval s = v)
    (hx : a.eval x = .slice (some ⟨w.heap.size, 0, none⟩) 1 1) (hlen : xs.length + 1 ≤ 140737488355328)
    (k : ∀ v' w', Own w' B 5 v' (xs ++ [.int .u8 c]) → Below B w w' → wpList Try.prog ops Q rest (a.put o.dst v') w') : wpList Try.prog ops Q (o :: rest) a (w.alloc (.cells #[.int .u8 c] 5 (0, 0))) := by
  have hB1 : B ≤ (w.alloc (.cells #[.int .u8 c] 5 (0, 0))).heap.size := by simp; omega
  exact (h.alloc _).append8 hB1 hgd s x ho hs ⟨w.heap.size, 0, none⟩ 1 1 [.int .u8 c] hx rfl (own_one _ _ _) (one1 _ rfl) hlen
    (fun v' w' h2 hb _ => k v' w' h2 (((Below.refl B w).alloc hB _).trans hb))
/-- append(s, c), c one byte: and whatever lies elsewhere stays. -/
theorem push8x (h : Own w B 5 v xs) (hB : B ≤ w.heap.size) {c : Int} (hgd : o.guard = none) (s x : Operand)
    (ho : o.op = .call { callee := .builtin .append, args := #[s, x], argTypes := #[43, 43] }) (hs : a.eval s = v)
    (hx : a.eval x = .slice (some ⟨w.heap.size, 0, none⟩) 1 1) (hlen : xs.length + 1 ≤ 140737488355328)
    (k : ∀ v' w', Own w' B 5 v' (xs ++ [.int .u8 c]) → Below B w w' → (∀ B2 e2 v2 xs2, Own w B2 e2 v2 xs2 → (v2.ownBlock = none ∨ v2.ownBlock ≠ v.ownBlock) → Own w' B2 e2 v2 xs2) →
      (v'.ownBlock = v.ownBlock ∨ ∃ k, v'.ownBlock = some k ∧ w.heap.size ≤ k) → wpList Try.prog ops Q rest (a.put o.dst v') w') : wpList Try.prog ops Q (o :: rest) a (w.alloc (.cells #[.int .u8 c] 5 (0, 0))) := by
  have hB1 : B ≤ (w.alloc (.cells #[.int .u8 c] 5 (0, 0))).heap.size := by simp; omega
  obtain ⟨i, z, i1, i2, i3, i4, i5⟩ := u8Info
  refine (h.alloc _).append hgd s x 43 ho i z 1 Try.underlying43 i1 i2 i3 i4 i5 hs ⟨w.heap.size, 0, none⟩ 1 1 [.int .u8 c] hx rfl (own_one _ _ _) (one1 _ rfl) (by unfold maxLen; omega) (by omega) hB1 (fun v' w' h2 hg hor => k v' w' h2 (((Below.refl B w).alloc hB _).trans (below_of (v' := v) (h.alloc _) hB1 hg)) (fun B2 e2 v2 xs2 h3 hne => (h3.alloc _).kept hg hne) ?_)
  rcases hor with h4 | ⟨k, h4, h5⟩
  · exact .inl h4
  · exact .inr ⟨k, h4, by simp at h5; omega⟩
end Own
end Go.Proofs.Ytdegeodegjmddaa.Row

namespace Go.Proofs.Ytdegeodegjmddaa.Row
open Go Go.RowKit
set_option maxRecDepth 100000
set_option linter.unusedVariables false
set_option linter.unusedSimpArgs false
theorem u32Info : ∃ i z, Try.prog.info? 101 = some i ∧ i.zero = some z ∧ i.size = 1 ∧ i.bytes = 4 ∧ z.cells.size = 1 := by
  have h : ((Try.prog.info? 101).bind fun i => i.zero.bind fun z => if i.size = 1 ∧ i.bytes = 4 ∧ z.cells.size = 1 then some () else none) = some () := by kernel_rfl
  cases hi : Try.prog.info? 101 with
  | none => rw [hi] at h; cases h
  | some i =>
    rw [hi] at h
    cases hz : i.zero with
    | none => simp [hz] at h
    | some z =>
      refine ⟨i, z, rfl, hz, ?_⟩
      simp only [Option.bind_some, hz] at h
      split at h
      · assumption
      · cases h
namespace Own
variable {w w' : World} {B : Nat} {v : Value} {xs : List Value} {ops : Array Oper} {rest : List Oper} {o : Oper} {a : Act} {Q : Exit → Act → World → Prop}
/-- append(s, x..), x a slice of numbers. -/
theorem append32 (h : Own w B 101 v xs) (hB : B ≤ w.heap.size) (hgd : o.guard = none) (s x : Operand)
    (ho : o.op = .call { callee := .builtin .append, args := #[s, x], argTypes := #[104, 104] }) (hs : a.eval s = v)
    (ad : Addr) (m c : Nat) (news : List Value) (hx : a.eval x = .slice (some ad) m c) (hl : news.length = m) (hnews : ∀ j u, news[j]? = some u → w.cell? (ad.add j) = some u) (h1 : ∀ u ∈ news, u.oneCell' = true)
    (hlen : xs.length + m ≤ 35184372088832)
    (k : ∀ v' w', Own w' B 101 v' (xs ++ news) → Below B w w' → w.grownBy w' v.ownBlock → wpList Try.prog ops Q rest (a.put o.dst v') w') : wpList Try.prog ops Q (o :: rest) a w := by
  obtain ⟨i, z, i1, i2, i3, i4, i5⟩ := u32Info
  exact h.append hgd s x 104 ho i z 4 Try.underlying104 i1 i2 i3 i4 i5 hs ad m c news hx hl hnews h1 (by unfold maxLen; omega) (by omega) hB
    (fun v' w' h2 hg _ => k v' w' h2 (below_of (v' := v) h hB hg) hg)
/-- append(s, c), c one number. -/
theorem push32 (h : Own w B 101 v xs) (hB : B ≤ w.heap.size) {c : Int} (hgd : o.guard = none) (s x : Operand)
    (ho : o.op = .call { callee := .builtin .append, args := #[s, x], argTypes := #[104, 104] }) (hs : a.eval s = v)
    (hx : a.eval x = .slice (some ⟨w.heap.size, 0, none⟩) 1 1) (hlen : xs.length + 1 ≤ 35184372088832)
    (k : ∀ v' w', Own w' B 101 v' (xs ++ [.int .u32 c]) → Below B w w' → wpList Try.prog ops Q rest (a.put o.dst v') w') : wpList Try.prog ops Q (o :: rest) a (w.alloc (.cells #[.int .u32 c] 101 (0, 0))) := by
  have hB1 : B ≤ (w.alloc (.cells #[.int .u32 c] 101 (0, 0))).heap.size := by simp; omega
  exact (h.alloc _).append32 hB1 hgd s x ho hs ⟨w.heap.size, 0, none⟩ 1 1 [.int .u32 c] hx rfl (own_one _ _ _) (one1 _ rfl) hlen
    (fun v' w' h2 hb _ => k v' w' h2 (((Below.refl B w).alloc hB _).trans hb))
end Own
end Go.Proofs.Ytdegeodegjmddaa.Row

namespace Go.Proofs.Ytdegeodegjmddaa.Row
open Go Go.RowKit
set_option maxRecDepth 100000
set_option linter.unusedVariables false
set_option linter.unusedSimpArgs false
theorem own_many (w : World) (e : TypeId) (cs : List Value) : ∀ (j : Nat) (u : Value), cs[j]? = some u → (w.alloc (.cells cs.toArray e (0, 0))).cell? ((⟨w.heap.size, 0, none⟩ : Addr).add j) = some u := by
  intro j u h
  rw [Addr.add_mid, Nat.zero_add, cell_of_row _ _ _ _ _ _ (heap_alloc_new w _)]
  simpa using h
namespace Own
variable {w w' : World} {B : Nat} {v : Value} {xs : List Value} {ops : Array Oper} {rest : List Oper} {o : Oper} {a : Act} {Q : Exit → Act → World → Prop}
/-- append(s, c..), the bytes typed one by one. -/
theorem many8 (h : Own w B 5 v xs) (hB : B ≤ w.heap.size) {cs : List Value} (h1 : ∀ u ∈ cs, u.oneCell' = true) (hgd : o.guard = none) (s x : Operand)
    (ho : o.op = .call { callee := .builtin .append, args := #[s, x], argTypes := #[43, 43] }) (hs : a.eval s = v)
    (hx : a.eval x = .slice (some ⟨w.heap.size, 0, none⟩) cs.length cs.length) (hlen : xs.length + cs.length ≤ 140737488355328)
    (k : ∀ v' w', Own w' B 5 v' (xs ++ cs) → Below B w w' → wpList Try.prog ops Q rest (a.put o.dst v') w') : wpList Try.prog ops Q (o :: rest) a (w.alloc (.cells cs.toArray 5 (0, 0))) := by
  have hB1 : B ≤ (w.alloc (.cells cs.toArray 5 (0, 0))).heap.size := by simp; omega
  exact (h.alloc _).append8 hB1 hgd s x ho hs ⟨w.heap.size, 0, none⟩ cs.length cs.length cs hx rfl (own_many _ _ _) h1 hlen
    (fun v' w' h2 hb _ => k v' w' h2 (((Below.refl B w).alloc hB _).trans hb))
/-- append(s, x), x one text. -/
theorem pushS (h : Own w B 9 v xs) (hB : B ≤ w.heap.size) {c : ByteArray} (hgd : o.guard = none) (s x : Operand)
    (ho : o.op = .call { callee := .builtin .append, args := #[s, x], argTypes := #[44, 44] }) (hs : a.eval s = v)
    (hx : a.eval x = .slice (some ⟨w.heap.size, 0, none⟩) 1 1) (hlen : xs.length + 1 ≤ 8796093022208)
    (k : ∀ v' w', Own w' B 9 v' (xs ++ [.string c]) → Below B w w' → wpList Try.prog ops Q rest (a.put o.dst v') w') : wpList Try.prog ops Q (o :: rest) a (w.alloc (.cells #[.string c] 9 (0, 0))) := by
  have hB1 : B ≤ (w.alloc (.cells #[.string c] 9 (0, 0))).heap.size := by simp; omega
  obtain ⟨i, z, i1, i2, i3, i4, i5⟩ := strInfo
  exact (h.alloc _).append hgd s x 44 ho i z 16 Try.underlying44 i1 i2 i3 i4 i5 hs ⟨w.heap.size, 0, none⟩ 1 1 [.string c] hx rfl (own_one _ _ _) (one1 _ rfl) (by unfold maxLen; omega) (by omega) hB1
    (fun v' w' h2 hg _ => k v' w' h2 (((Below.refl B w).alloc hB _).trans (below_of (v' := v) (h.alloc _) hB1 hg)))
/-- append(s, x), x one text: and whatever lies elsewhere stays. -/
theorem pushSx (h : Own w B 9 v xs) (hB : B ≤ w.heap.size) {c : ByteArray} (hgd : o.guard = none) (s x : Operand)
    (ho : o.op = .call { callee := .builtin .append, args := #[s, x], argTypes := #[44, 44] }) (hs : a.eval s = v)
    (hx : a.eval x = .slice (some ⟨w.heap.size, 0, none⟩) 1 1) (hlen : xs.length + 1 ≤ 8796093022208)
    (k : ∀ v' w', Own w' B 9 v' (xs ++ [.string c]) → Below B w w' → (∀ B2 e2 v2 xs2, Own w B2 e2 v2 xs2 → (v2.ownBlock = none ∨ v2.ownBlock ≠ v.ownBlock) → Own w' B2 e2 v2 xs2) →
      (v'.ownBlock = v.ownBlock ∨ ∃ k, v'.ownBlock = some k ∧ w.heap.size ≤ k) → wpList Try.prog ops Q rest (a.put o.dst v') w') : wpList Try.prog ops Q (o :: rest) a (w.alloc (.cells #[.string c] 9 (0, 0))) := by
  have hB1 : B ≤ (w.alloc (.cells #[.string c] 9 (0, 0))).heap.size := by simp; omega
  obtain ⟨i, z, i1, i2, i3, i4, i5⟩ := strInfo
  refine (h.alloc _).append hgd s x 44 ho i z 16 Try.underlying44 i1 i2 i3 i4 i5 hs ⟨w.heap.size, 0, none⟩ 1 1 [.string c] hx rfl (own_one _ _ _) (one1 _ rfl) (by unfold maxLen; omega) (by omega) hB1 (fun v' w' h2 hg hor => k v' w' h2 (((Below.refl B w).alloc hB _).trans (below_of (v' := v) (h.alloc _) hB1 hg)) (fun B2 e2 v2 xs2 h3 hne => (h3.alloc _).kept hg hne) ?_)
  rcases hor with h4 | ⟨k, h4, h5⟩
  · exact .inl h4
  · exact .inr ⟨k, h4, by simp at h5; omega⟩
end Own
end Go.Proofs.Ytdegeodegjmddaa.Row

namespace Go.Proofs.Ytdegeodegjmddaa.Row
set_option linter.unusedVariables false
set_option linter.unusedSimpArgs false
open Go
section
variable {P : Program} {md : Region.Mode} {ops : Array Oper} {w : World}
/-- Each operation ahead of n, but the first one, is waited for by one that is not behind n. -/
def sinkE (md : Region.Mode) (ops : Array Oper) (n : Nat) : Bool :=
  (List.range n).all fun i => i == 0 || (List.range (n + 1)).any fun j => decide (i < j) && Region.waitsFor md ops j i
theorem unlisted_waits {n : Nat} {listed : Array Bool} (hs : sinkE md ops n = true) (hc : Region.chainB md ops n = true) (hn : n < ops.size) (inv : HeadInv md ops n listed) (h0 : listed.getD 0 true = true) :
    ∀ (d i : Nat), n - i = d → i < n → listed.getD i true = false → ∀ t, n ≤ t → t ∉ Region.ready md ops listed := by
  intro d
  induction d using Nat.strongRecOn with
  | _ d ih =>
    intro i hd hi hun t ht hr
    obtain ⟨_, ot, hot, hall⟩ := mem_ready.1 hr
    have htlt : t < ops.size := (Array.getElem?_eq_some_iff.1 hot).1
    rcases Nat.lt_or_ge n t with htn | htn
    · have h1 := List.all_eq_true.1 hc t (List.mem_range.2 htlt)
      simp only [Bool.or_eq_true, decide_eq_true_eq] at h1
      rcases h1 with h1 | h1
      · omega
      · obtain ⟨o', ho', e, he, hb, hon⟩ := Region.waitsFor_spec h1
        obtain rfl := Option.some.inj (ho'.symm.trans hot)
        have h2 := hall e he hb
        rw [hon, getD_both (inv.tail (t - 1) (by omega) (by omega))] at h2
        cases h2
    · have htn : t = n := by omega
      subst htn
      have h1 := List.all_eq_true.1 hs i (List.mem_range.2 hi)
      simp only [Bool.or_eq_true, beq_iff_eq] at h1
      rcases h1 with h1 | h1
      · rw [h1, h0] at hun; cases hun
      · obtain ⟨j, hj, hj2⟩ := List.any_eq_true.1 h1
        simp only [Bool.and_eq_true, decide_eq_true_eq] at hj2
        obtain ⟨oj, hoj, e, he, hb, hon⟩ := Region.waitsFor_spec hj2.2
        have hjle : j ≤ t := by have := List.mem_range.1 hj; omega
        rcases Nat.lt_or_ge j t with hjt | hjt
        · cases hl : listed.getD j false with
          | true =>
            have h2 := inv.closed j oj hoj hl e he hb
            rw [hon, getD_both hun] at h2
            cases h2
          | false => exact ih (t - j) (by omega) j rfl (by omega) (getD_in (by rw [inv.size]; omega) hl) t (Nat.le_refl _) hr
        · obtain rfl : j = t := by omega
          obtain rfl := Option.some.inj (hoj.symm.trans hot)
          have h2 := hall e he hb
          rw [hon, getD_both hun] at h2
          cases h2
theorem set_zero {i : Nat} {listed : Array Bool} (h : listed.getD 0 true = true) : (listed.setIfInBounds i true).getD 0 true = true := by
  by_cases hi : i = 0
  · subst hi
    rcases Nat.lt_or_ge 0 listed.size with h' | h'
    · simp [h']
    · simp [Array.getElem?_eq_none h']
  · rw [getD_set_ne true hi]; exact h
theorem early_first {n i : Nat} {oi : Oper} {v : Value} {L : Array Bool → Act → Prop} (hi : ops[i]? = some oi) (hsel : ∀ (j : Nat) (o : Oper) cs b, ops[j]? = some o → o.op ≠ .select cs b)
    (hs : sinkE md ops n = true) (hc : Region.chainB md ops n = true) (hn : n < ops.size) (hin : i < n)
    (hdone : ∀ listed a, L listed a → ∀ j ∈ Region.ready md ops listed, n ≤ j) :
    ∀ (f : Nat) (listed : Array Bool) (a : Act), HeadInv md ops n listed → listed.getD 0 true = true →
      (∀ j oj, ops[j]? = some oj → j ≠ i → listed.getD j true = false → (∀ e ∈ oj.after, Region.binds md e = true → e.on ≠ i) → oi.apart ops oj = true) →
      i ∈ Region.ready md ops listed → YieldsAt P ops w oi v a →
      wpAnyL P md ops w n L f (listed.setIfInBounds i true) (a.put oi.dst v) → wpAnyL P md ops w n L (f + 1) listed a := by
  intro f
  induction f with
  | zero =>
    intro listed a inv h0 _ hr hy H
    refine ⟨fun h => (by rw [h] at hr; cases hr), fun j hj => ?_⟩
    have hjn : j < n := Nat.lt_of_not_le fun h => unlisted_waits hs hc hn inv h0 _ i rfl hin (mem_ready.1 hr).1 j h hj
    refine ⟨hjn, ?_⟩
    by_cases hji : j = i
    · subst hji; exact hy.stOp hi H
    · have := hdone _ _ H j (ready_mono hj hji)
      omega
  | succ f ih =>
    intro listed a inv h0 hfree hr hy H
    have hun := (mem_ready.1 hr).1
    refine ⟨fun h => (by rw [h] at hr; cases hr), fun j hj => ?_⟩
    have hjn : j < n := Nat.lt_of_not_le fun h => unlisted_waits hs hc hn inv h0 _ i rfl hin hun j h hj
    refine ⟨hjn, ?_⟩
    by_cases hji : j = i
    · subst hji; exact hy.stOp hi H
    · obtain ⟨hjun, oj, hoj, hall⟩ := mem_ready.1 hj
      have hnot : ∀ e ∈ oj.after, Region.binds md e = true → e.on ≠ i := fun e he hb heq => by
        have h1 := hall e he hb
        rw [heq, getD_both hun] at h1
        cases h1
      have h2 := stOp_put hoj (hfree j oj hoj hji hjun hnot) (fun cs b => hsel i oi cs b hi) (fun cs b => hsel j oj cs b hoj) hy (H.2 j (ready_mono hj hji)).2
      refine stOp_mono (fun a' h3 => ih (listed.setIfInBounds j true) a' (inv.set hj hjn) (set_zero h0) (fun k ok hk hki hu hno => hfree k ok hk hki ?_ hno) (ready_mono hr (Ne.symm hji)) h3.1 ?_) h2
      · by_cases hjk : j = k
        · subst hjk; exact hjun
        · rw [getD_set_ne true hjk] at hu; exact hu
      · rw [Array.setIfInBounds_comm _ _ hji]
        exact h3.2
theorem early_lex {n g : Nat} {Lq : Act → Prop} (hsel : Region.noSelect ops = true) (hs : sinkE md ops n = true) (hc : Region.chainB md ops n = true) (hn : n < ops.size) :
    ∀ (l : List Oper) (k : Nat) (listed : Array Bool) (a : Act), (∀ j, j < l.length → l[j]? = ops[k + j]?) → k + l.length = n → HeadInv md ops n listed → listed.getD 0 true = true →
    Region.lexHead md ops g l.length k listed = true → wpStill P ops w Lq l a →
    wpAnyL P md ops w n (fun listed' a' => Region.seqB md ops g n listed' = true ∧ Lq a') l.length listed a
  | [], k, listed, a, _, hk, _, _, hB, h => by
    have : k = n := by simpa using hk
    subst this
    exact ⟨by simpa [Region.lexHead] using hB, h⟩
  | o :: l, k, listed, a, hl, hk, inv, h00, hB, h => by
    have h0 : ops[k]? = some o := by simpa using (hl 0 (by simp)).symm
    simp only [List.length_cons, Region.lexHead, Bool.and_eq_true] at hB
    obtain ⟨⟨hr, hf⟩, hB'⟩ := hB
    have hkn : k < n := by simp only [List.length_cons] at hk; omega
    have hr' : k ∈ Region.ready md ops listed := by simpa using hr
    have hst : stOp P ops w k (wpStill P ops w Lq l) a := by unfold stOp; simp only [h0]; exact h
    obtain ⟨v, hy, hK⟩ := yieldsAt_of_stOp h0 hst
    exact early_first h0 (Region.noSelect_spec hsel) hs hc hn hkn (fun listed' a' hL => seqB_ready hL.1) l.length listed a inv h00 (Region.free_spec h0 hf) hr' hy
      (early_lex hsel hs hc hn l (k + 1) _ _ (fun j hj => by have := hl (j + 1) (by simp; omega); simpa [Nat.add_assoc, Nat.add_comm 1 j] using this) (by simp only [List.length_cons] at hk; omega) (inv.set hr' hkn) (set_zero h00) hB' hK)
def earlyB (md : Region.Mode) (ops : Array Oper) (n : Nat) : Bool :=
  Region.noSelect ops && decide (n < ops.size) && sinkE md ops n && Region.chainB md ops n && Region.free md ops (Array.replicate ops.size false) 0 && (Region.ready md ops (Array.replicate ops.size false)).contains 0 &&
    decide (0 < n) && (match ops[0]? with | some o => o.after.isEmpty | none => false) && Region.lexHead md ops (ops.size - n) (n - 1) 1 ((Array.replicate ops.size false).setIfInBounds 0 true)
theorem wp_region_early {id : Nat} {Q : Exit → Act → World → Prop} {a : Act} {l : List Oper} {o : Oper} (n : Nat) (v : Value) (hm : P.follows .mixedOrders = true) (hB : earlyB .any (o :: l).toArray n = true)
    (hQ : ∀ c a w, Q (.panic c) (a.put o.dst v) w → Q (.panic c) a w) (hy : Yields P (o :: l).toArray o v a)
    (h : wpStill P (o :: l).toArray { w with drawn := w.drawn + 1 } (fun a' => wpList P (o :: l).toArray Q (l.drop (n - 1)) a' { w with drawn := w.drawn + 1 }) (l.take (n - 1)) (a.put o.dst v)) : (Code.region id (o :: l).toArray true).wp P Q a w := by
  simp only [earlyB, Bool.and_eq_true, decide_eq_true_eq] at hB
  obtain ⟨⟨⟨⟨⟨⟨⟨⟨hsel, hn⟩, hs⟩, hc⟩, hfr⟩, hrd⟩, hn0⟩, hae⟩, hlex⟩ := hB
  have hn' : n < l.length + 1 := by simpa using hn
  have htl : (l.take (n - 1)).length = n - 1 := by simp; omega
  have hdl : (l.drop (n - 1)).length = (o :: l).toArray.size - n := by simp; omega
  have hr0 : 0 ∈ Region.ready .any (o :: l).toArray (Array.replicate (o :: l).toArray.size false) := by simpa using hrd
  have inv0 : HeadInv .any (o :: l).toArray n (Array.replicate (o :: l).toArray.size false) :=
    ⟨by simp, fun j oj _ hl => (by rw [getD_replicate_false] at hl; cases hl), fun t _ ht => getD_in (by simpa using ht) (getD_replicate_false _ _)⟩
  have inv1 := inv0.set hr0 hn0
  have h00 : ((Array.replicate (o :: l).toArray.size false).setIfInBounds 0 true).getD 0 true = true := by simp
  have H := early_lex (md := .any) (g := (o :: l).toArray.size - n) hsel hs hc hn (l.take (n - 1)) 1 _ (a.put o.dst v) (fun j hj => by
    have hj' : j < n - 1 := by rw [htl] at hj; exact hj
    simp [hj', Nat.add_comm 1 j]) (by rw [htl]; omega) inv1 h00 (by rw [htl]; exact hlex) h
  refine wp_region_any hm ?_
  have H2 := wpAny_of_head (Q' := Q) (g := (o :: l).toArray.size - n) (fun listed a' hL => by
    have := wpAny_of_seq (md := .any) (Q' := Q) (l.drop (n - 1)) n listed a' { w with drawn := w.drawn + 1 } (fun j => by
      rw [List.getElem?_drop]
      simp only [List.getElem?_toArray]
      rw [show n + j = (n - 1 + j) + 1 by omega, List.getElem?_cons_succ]) (by rw [hdl]; exact hL.1) hL.2
    rwa [hdl] at this) _ _ _ H
  rw [htl] at H2
  have e : (o :: l).toArray.size = (n - 1 + ((o :: l).toArray.size - n)) + 1 := by simp; omega
  have H3 := wpAny_take (i := 0) (oi := o) (v := v) (by simp) hsel hfr hrd hQ hy H2
  rw [← e] at H3
  exact H3
end
end Go.Proofs.Ytdegeodegjmddaa.Row

namespace Go.Proofs.Ytdegeodegjmddaa.Row
open Go Go.RowKit Go.ChangeShapes Go.WideShapes
set_option maxRecDepth 100000
set_option linter.unusedVariables false
set_option linter.unusedSimpArgs false
/-- The slice whose row begins at a holds these strings, when the call begins. -/
structure In (W : World) (a : Option Addr) (l : List ByteArray) : Prop where
  nil : a = none → l = []
  cell : ∀ x, a = some x → ∀ i s, l[i]? = some s → W.cell? (x.add i) = some (.string s)
  many : l.length * 16 ≤ 140737488351232
  each : ∀ s ∈ l, s.size ≤ 140737488351232
theorem In.at_ {W w' : World} {a : Option Addr} {l : List ByteArray} (h : In W a l) (hb : Below W.heap.size W w') {x : Addr} (hx : a = some x) {i : Nat} {s : ByteArray} (hs : l[i]? = some s) : w'.cell? (x.add i) = some (.string s) := by
  have h1 := h.cell x hx i s hs
  have hlt : (x.add i).block < W.heap.size := by
    cases hk : W.heap[(x.add i).block]? with
    | none => simp [World.cell?, hk] at h1
    | some o => exact (Array.getElem?_eq_some_iff.1 hk).1
  rw [← h1]
  simp only [World.cell?, hb.block _ hlt]
theorem In.ex {W : World} {a : Option Addr} {l : List ByteArray} (h : In W a l) {i : Nat} {s : ByteArray} (hs : l[i]? = some s) : ∃ x, a = some x := by
  cases a with
  | some x => exact ⟨x, rfl⟩
  | none => rw [h.nil rfl] at hs; simp at hs
theorem weights_all {H : Type} {P : Program} {e : TypeId} : ∀ {ds : List (DataW H)} {d : DataW H}, d ∈ ds → ∀ n ∈ d.weights P e, n ∈ DataW.weightsAll P e ds
  | d0 :: ds, d, hd, n, hn => by
    simp only [DataW.weightsAll, List.mem_append]
    rcases List.mem_cons.1 hd with rfl | hd
    · exact Or.inl hn
    · exact Or.inr (weights_all hd n hn)
theorem In.of_trod {H : Type} {enc : TypeId × Value → H} {P : Program} {W : World} {base : Nat} {spare : Nat → Bool} {held : Bool} {t e : TypeId} {a : Option Addr} {len cap : Nat} {d : DataW H} {ps : List MemPlace} {ts : List TypeId} {ds : List (DataW H)} {j : Nat}
    (hsz : (DataW.weightsEach P ts ds).all (· ≤ reachBytes) = true) (ht : ts[j]? = some t) (hd : ds[j]? = some d) (hu : P.underlying t = some (.slice e)) (he : P.underlying e = some .string) (hc : P.cellsOf e = 1) (hB : P.bytesOf e = 16)
    (h : DataW.Trod enc P W base spare held t (.slice a len cap) d ps) : ∃ l : List ByteArray, l.length = len ∧ In W a l := by
  obtain ⟨fuel, hf⟩ := h
  rcases Go.Deep.open_strs hu he hc hf with ⟨hcs, _⟩ | ⟨x, l, c, m, Sx, hcs, _, hl, hcm, hm, hx, hcell⟩
  · simp [Value.cells] at hcs
    obtain ⟨rfl, rfl, rfl⟩ := hcs
    exact ⟨[], rfl, fun _ => rfl, fun x hx => by simp at hx, by simp, by simp⟩
  · simp [Value.cells] at hcs
    obtain ⟨rfl, rfl, rfl⟩ := hcs
    obtain ⟨hx, _⟩ := Prod.mk.inj hx
    subst hx
    have hlm : len ≤ m := by rw [hm]; split <;> omega
    have z := sized_slice hsz ht hd hu
    simp only [List.length_map, List.length_range, hB] at z
    have hr : reachBytes = 140737488351232 := rfl
    refine ⟨(List.range len).map Sx, by simp, fun h => by simp at h, fun y hy i s hs => ?_, ?_, fun s hs => ?_⟩
    · obtain rfl := Option.some.inj hy
      have hi : i < len := by have := (List.getElem?_eq_some_iff.1 hs).1; simpa using this
      simp [hi] at hs
      rw [(hcell i (by omega)).1, hs]
    · rw [List.length_map, List.length_range]
      rw [hr] at z
      have : len * 16 ≤ (len + (m - len)) * 16 := Nat.mul_le_mul_right _ (by omega)
      omega
    · obtain ⟨i, hi, rfl⟩ := List.mem_map.1 hs
      have hi := List.mem_range.1 hi
      have h4 : (Sx i).data.toList.length ∈ DataW.weights P t (DataW.slice ((List.range len).map fun i => (DataW.lit (.string (Sx i).data.toList) : DataW H)) ((List.range (m - len)).map fun j => DataW.lit (.string (Sx (len + j)).data.toList))) := by
        simp only [DataW.weights, hu, List.mem_cons, List.mem_append]
        exact Or.inr (Or.inl (weights_all (d := .lit (.string (Sx i).data.toList)) (List.mem_map.2 ⟨i, List.mem_range.2 hi, rfl⟩) _ (by simp [DataW.weights])))
      have h3 := List.all_eq_true.1 hsz _ (DataW.weights_mem_each ht hd _ h4)
      have h3 := of_decide_eq_true h3
      rw [hr, Array.length_toList] at h3
      exact h3
/-- The slice whose row begins at a holds these whole numbers, when the call begins. -/
structure InI (W : World) (a : Option Addr) (l : List Int) : Prop where
  nil : a = none → l = []
  cell : ∀ x, a = some x → ∀ i n, l[i]? = some n → W.cell? (x.add i) = some (.int .i64 n)
  many : l.length * 8 ≤ 140737488351232
  each : ∀ n ∈ l, (Lit.int .i64 n).wf = true
theorem InI.at_ {W w' : World} {a : Option Addr} {l : List Int} (h : InI W a l) (hb : Below W.heap.size W w') {x : Addr} (hx : a = some x) {i : Nat} {n : Int} (hs : l[i]? = some n) : w'.cell? (x.add i) = some (.int .i64 n) := by
  have h1 := h.cell x hx i n hs
  have hlt : (x.add i).block < W.heap.size := by
    cases hk : W.heap[(x.add i).block]? with
    | none => simp [World.cell?, hk] at h1
    | some o => exact (Array.getElem?_eq_some_iff.1 hk).1
  rw [← h1]
  simp only [World.cell?, hb.block _ hlt]
theorem InI.ex {W : World} {a : Option Addr} {l : List Int} (h : InI W a l) {i : Nat} {n : Int} (hs : l[i]? = some n) : ∃ x, a = some x := by
  cases a with
  | some x => exact ⟨x, rfl⟩
  | none => rw [h.nil rfl] at hs; simp at hs
theorem InI.of_trod {H : Type} {enc : TypeId × Value → H} {P : Program} {W : World} {base : Nat} {spare : Nat → Bool} {held : Bool} {t e : TypeId} {a : Option Addr} {len cap : Nat} {d : DataW H} {ps : List MemPlace} {ts : List TypeId} {ds : List (DataW H)} {j : Nat}
    (hsz : (DataW.weightsEach P ts ds).all (· ≤ reachBytes) = true) (ht : ts[j]? = some t) (hd : ds[j]? = some d) (hu : P.underlying t = some (.slice e)) (he : P.underlying e = some (.int .i64)) (hc : P.cellsOf e = 1) (hB : P.bytesOf e = 8)
    (h : DataW.Trod enc P W base spare held t (.slice a len cap) d ps) : ∃ l : List Int, l.length = len ∧ InI W a l := by
  obtain ⟨fuel, hf⟩ := h
  rcases open_ints hu he hc hf with ⟨hcs, _⟩ | ⟨x, l, c, zs, hcs, _, hl, hcm, hz, hx, hcell, hwf⟩
  · simp [Value.cells] at hcs
    obtain ⟨rfl, rfl, rfl⟩ := hcs
    exact ⟨[], rfl, fun _ => rfl, fun x hx => by simp at hx, by simp, by simp⟩
  · simp [Value.cells] at hcs
    obtain ⟨rfl, rfl, rfl⟩ := hcs
    obtain ⟨hx, _⟩ := Prod.mk.inj hx
    subst hx
    have z := sized_slice hsz ht hd hu
    rw [hB] at z
    have hr : reachBytes = 140737488351232 := rfl
    rw [hr] at z
    have hlm : len ≤ zs.length := by rw [hz]; split <;> omega
    have h1 : (lits (H := H) .i64 (zs.take len)).length + (lits (H := H) .i64 (zs.drop len)).length = zs.length := by
      simp [lits]
      omega
    rw [h1] at z
    refine ⟨zs.take len, by simp; omega, fun h => by simp at h, fun y hy i n hs => ?_, ?_, fun n hn => hwf n (List.mem_of_mem_take hn)⟩
    · obtain rfl := Option.some.inj hy
      have hi : i < len := by (have := (List.getElem?_eq_some_iff.1 hs).1; simp at this; omega)
      rw [List.getElem?_take, if_pos hi] at hs
      rw [hcell i (by omega)]
      simp [List.getD_eq_getElem?_getD, hs]
    · rw [List.length_take]; omega
theorem in_one (w : World) (x : ByteArray) (hx : x.size ≤ 140737488351232) : In (w.alloc (.cells #[.string x] 9 (0, 0))) (some ⟨w.heap.size, 0, none⟩) [x] :=
  ⟨fun h => (by cases h), fun y hy i s hs => (by
    obtain rfl := Option.some.inj hy
    match i, hs with
    | 0, hs =>
      simp at hs
      subst hs
      rw [Addr.add_mid, Nat.zero_add, cell_of_row _ _ _ _ _ _ (heap_alloc_new w _)]
      rfl), by simp, by simpa using hx⟩
end Go.Proofs.Ytdegeodegjmddaa.Row
