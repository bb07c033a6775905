/- A slice of strings that came in: read, where nothing below the call's own memory has changed. Conditions: as each theorem names them. -/
import Derived.Test.YtfbcgpgpfpnpnaaRow
import Derived.SizedLaws
import Derived.Deep.Strs
import Derived.ChangeSlices
namespace Go.Proofs.Ytfbcgpgpfpnpnaa.Row
open Go Go.RowKit Go.ChangeShapes Go.WideShapes
set_option maxRecDepth 100000
set_option linter.unusedVariables false
set_option linter.unusedSimpArgs false
/-- The slice whose row begins at a holds these strings, when the call begins. -/
structure In (W : World) (a : Option Addr) (l : List ByteArray) : Prop where
  nil : a = none → l = []
  cell : ∀ x, a = some x → ∀ i s, l[i]? = some s → W.cell? (x.add i) = some (.string s)
  many : l.length * 16 ≤ 140737488351232
  each : ∀ s ∈ l, s.size ≤ 140737488351232
theorem In.at_ {W w' : World} {a : Option Addr} {l : List ByteArray} (h : In W a l) (hb : Below W.heap.size W w') {x : Addr} (hx : a = some x) {i : Nat} {s : ByteArray} (hs : l[i]? = some s) : w'.cell? (x.add i) = some (.string s) := by
  have h1 := h.cell x hx i s hs
  have hlt : (x.add i).block < W.heap.size := by
    cases hk : W.heap[(x.add i).block]? with
    | none => simp [World.cell?, hk] at h1
    | some o => exact (Array.getElem?_eq_some_iff.1 hk).1
  rw [← h1]
  simp only [World.cell?, hb.block _ hlt]
theorem In.ex {W : World} {a : Option Addr} {l : List ByteArray} (h : In W a l) {i : Nat} {s : ByteArray} (hs : l[i]? = some s) : ∃ x, a = some x := by
  cases a with
  | some x => exact ⟨x, rfl⟩
  | none => rw [h.nil rfl] at hs; simp at hs
theorem weights_all {H : Type} {P : Program} {e : TypeId} : ∀ {ds : List (DataW H)} {d : DataW H}, d ∈ ds → ∀ n ∈ d.weights P e, n ∈ DataW.weightsAll P e ds
  | d0 :: ds, d, hd, n, hn => by
    simp only [DataW.weightsAll, List.mem_append]
    rcases List.mem_cons.1 hd with rfl | hd
    · exact Or.inl hn
    · exact Or.inr (weights_all hd n hn)
theorem In.of_trod {H : Type} {enc : TypeId × Value → H} {P : Program} {W : World} {base : Nat} {spare : Nat → Bool} {held : Bool} {t e : TypeId} {a : Option Addr} {len cap : Nat} {d : DataW H} {ps : List MemPlace} {ts : List TypeId} {ds : List (DataW H)} {j : Nat}
    (hsz : (DataW.weightsEach P ts ds).all (· ≤ reachBytes) = true) (ht : ts[j]? = some t) (hd : ds[j]? = some d) (hu : P.underlying t = some (.slice e)) (he : P.underlying e = some .string) (hc : P.cellsOf e = 1) (hB : P.bytesOf e = 16)
    (h : DataW.Trod enc P W base spare held t (.slice a len cap) d ps) : ∃ l : List ByteArray, l.length = len ∧ In W a l := by
  obtain ⟨fuel, hf⟩ := h
  rcases Go.Deep.open_strs hu he hc hf with ⟨hcs, _⟩ | ⟨x, l, c, m, Sx, hcs, _, hl, hcm, hm, hx, hcell⟩
  · simp [Value.cells] at hcs
    obtain ⟨rfl, rfl, rfl⟩ := hcs
    exact ⟨[], rfl, fun _ => rfl, fun x hx => by simp at hx, by simp, by simp⟩
  · simp [Value.cells] at hcs
    obtain ⟨rfl, rfl, rfl⟩ := hcs
    obtain ⟨hx, _⟩ := Prod.mk.inj hx
    subst hx
    have hlm : len ≤ m := by rw [hm]; split <;> omega
    have z := sized_slice hsz ht hd hu
    simp only [List.length_map, List.length_range, hB] at z
    have hr : reachBytes = 140737488351232 := rfl
    refine ⟨(List.range len).map Sx, by simp, fun h => by simp at h, fun y hy i s hs => ?_, ?_, fun s hs => ?_⟩
    · obtain rfl := Option.some.inj hy
      have hi : i < len := by have := (List.getElem?_eq_some_iff.1 hs).1; simpa using this
      simp [hi] at hs
      rw [(hcell i (by omega)).1, hs]
    · rw [List.length_map, List.length_range]
      rw [hr] at z
      have : len * 16 ≤ (len + (m - len)) * 16 := Nat.mul_le_mul_right _ (by omega)
      omega
    · obtain ⟨i, hi, rfl⟩ := List.mem_map.1 hs
      have hi := List.mem_range.1 hi
      have h4 : (Sx i).data.toList.length ∈ DataW.weights P t (DataW.slice ((List.range len).map fun i => (DataW.lit (.string (Sx i).data.toList) : DataW H)) ((List.range (m - len)).map fun j => DataW.lit (.string (Sx (len + j)).data.toList))) := by
        simp only [DataW.weights, hu, List.mem_cons, List.mem_append]
        exact Or.inr (Or.inl (weights_all (d := .lit (.string (Sx i).data.toList)) (List.mem_map.2 ⟨i, List.mem_range.2 hi, rfl⟩) _ (by simp [DataW.weights])))
      have h3 := List.all_eq_true.1 hsz _ (DataW.weights_mem_each ht hd _ h4)
      have h3 := of_decide_eq_true h3
      rw [hr, Array.length_toList] at h3
      exact h3
/-- The slice whose row begins at a holds these whole numbers, when the call begins. -/
structure InI (W : World) (a : Option Addr) (l : List Int) : Prop where
  nil : a = none → l = []
  cell : ∀ x, a = some x → ∀ i n, l[i]? = some n → W.cell? (x.add i) = some (.int .i64 n)
  many : l.length * 8 ≤ 140737488351232
  each : ∀ n ∈ l, (Lit.int .i64 n).wf = true
theorem InI.at_ {W w' : World} {a : Option Addr} {l : List Int} (h : InI W a l) (hb : Below W.heap.size W w') {x : Addr} (hx : a = some x) {i : Nat} {n : Int} (hs : l[i]? = some n) : w'.cell? (x.add i) = some (.int .i64 n) := by
  have h1 := h.cell x hx i n hs
  have hlt : (x.add i).block < W.heap.size := by
    cases hk : W.heap[(x.add i).block]? with
    | none => simp [World.cell?, hk] at h1
    | some o => exact (Array.getElem?_eq_some_iff.1 hk).1
  rw [← h1]
  simp only [World.cell?, hb.block _ hlt]
theorem InI.ex {W : World} {a : Option Addr} {l : List Int} (h : InI W a l) {i : Nat} {n : Int} (hs : l[i]? = some n) : ∃ x, a = some x := by
  cases a with
  | some x => exact ⟨x, rfl⟩
  | none => rw [h.nil rfl] at hs; simp at hs
theorem InI.of_trod {H : Type} {enc : TypeId × Value → H} {P : Program} {W : World} {base : Nat} {spare : Nat → Bool} {held : Bool} {t e : TypeId} {a : Option Addr} {len cap : Nat} {d : DataW H} {ps : List MemPlace} {ts : List TypeId} {ds : List (DataW H)} {j : Nat}
    (hsz : (DataW.weightsEach P ts ds).all (· ≤ reachBytes) = true) (ht : ts[j]? = some t) (hd : ds[j]? = some d) (hu : P.underlying t = some (.slice e)) (he : P.underlying e = some (.int .i64)) (hc : P.cellsOf e = 1) (hB : P.bytesOf e = 8)
    (h : DataW.Trod enc P W base spare held t (.slice a len cap) d ps) : ∃ l : List Int, l.length = len ∧ InI W a l := by
  obtain ⟨fuel, hf⟩ := h
  rcases open_ints hu he hc hf with ⟨hcs, _⟩ | ⟨x, l, c, zs, hcs, _, hl, hcm, hz, hx, hcell, hwf⟩
  · simp [Value.cells] at hcs
    obtain ⟨rfl, rfl, rfl⟩ := hcs
    exact ⟨[], rfl, fun _ => rfl, fun x hx => by simp at hx, by simp, by simp⟩
  · simp [Value.cells] at hcs
    obtain ⟨rfl, rfl, rfl⟩ := hcs
    obtain ⟨hx, _⟩ := Prod.mk.inj hx
    subst hx
    have z := sized_slice hsz ht hd hu
    rw [hB] at z
    have hr : reachBytes = 140737488351232 := rfl
    rw [hr] at z
    have hlm : len ≤ zs.length := by rw [hz]; split <;> omega
    have h1 : (lits (H := H) .i64 (zs.take len)).length + (lits (H := H) .i64 (zs.drop len)).length = zs.length := by
      simp [lits]
      omega
    rw [h1] at z
    refine ⟨zs.take len, by simp; omega, fun h => by simp at h, fun y hy i n hs => ?_, ?_, fun n hn => hwf n (List.mem_of_mem_take hn)⟩
    · obtain rfl := Option.some.inj hy
      have hi : i < len := by (have := (List.getElem?_eq_some_iff.1 hs).1; simp at this; omega)
      rw [List.getElem?_take, if_pos hi] at hs
      rw [hcell i (by omega)]
      simp [List.getD_eq_getElem?_getD, hs]
    · rw [List.length_take]; omega
theorem in_one (w : World) (x : ByteArray) (hx : x.size ≤ 140737488351232) : In (w.alloc (.cells #[.string x] 9 (0, 0))) (some ⟨w.heap.size, 0, none⟩) [x] :=
  ⟨fun h => (by cases h), fun y hy i s hs => (by
    obtain rfl := Option.some.inj hy
    match i, hs with
    | 0, hs =>
      simp at hs
      subst hs
      rw [Addr.add_mid, Nat.zero_add, cell_of_row _ _ _ _ _ _ (heap_alloc_new w _)]
      rfl), by simp, by simpa using hx⟩
end Go.Proofs.Ytfbcgpgpfpnpnaa.Row
