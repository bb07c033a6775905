/- What the walks of cbc.Seal and cbc.Open stand on. Conditions: as each theorem names them. -/
import Derived.Test.YtfbcgpgpfpnpnaaCbcA
import Derived.Test.YtfbcgpgpfpnpnaaCbcB
import Derived.Test.YtfbcgpgpfpnpnaaCbcX
namespace Go.Proofs.Ytfbcgpgpfpnpnaa.Given
open Go.RowKit Go.Proofs.YtfbcgpgpfpnpnaaW.PrintWords Go.Proofs.YtfbcgpgpfpnpnaaW.PrintLast Go.Proofs.YtfbcgpgpfpnpnaaW.PrintMore
open Go.Proofs.Ytfbcgpgpfpnpnaa.Row Go.Proofs.Ytfbcgpgpfpnpnaa.Aes Go.Proofs.Ytfbcgpgpfpnpnaa.Row.At Go.Proofs.Ytfbcgpgpfpnpnaa.Cbc Go.Proofs.Ytfbcgpgpfpnpnaa.Range
set_option maxRecDepth 100000
set_option linter.unusedVariables false
set_option linter.unusedSimpArgs false
theorem res_se {fn : Func} {p p' : Tmp} (h : fn.results = #[.cell p 9, .cell p' 23]) (tmps : Array Value) (w : World) (g g' : Nat) (v v' : Value)
    (hp : tmps.getD p undef = .pointer (some ⟨g, 0, none⟩)) (hp' : tmps.getD p' undef = .pointer (some ⟨g', 0, none⟩)) (hc : w.cell? ⟨g, 0, none⟩ = some v) (hc' : w.cell? ⟨g', 0, none⟩ = some v') :
    (results fn tmps).run Try.prog w = .ok (.tuple #[v, v']) w := by
  have h1 : tmps[p]?.getD undef = .pointer (some ⟨g, 0, none⟩) := by simpa using hp
  have h2 : tmps[p']?.getD undef = .pointer (some ⟨g', 0, none⟩) := by simpa using hp'
  simp [results, h, h1, h2, asAddr, go_sem, hc, hc']
/-- A block that is neither the builder nor a row of bytes is kept by what is written. -/
theorem at_others {w w' : World} {g b : Nat} {t : TypeId} {cs : List Value} (h : At w g t cs) (ho : Lib.OthersKept 5 (some b) w w') (hg : g ≠ b) (ht : t ≠ 5) : At w' g t cs :=
  ⟨ho g _ h.heap (by simpa using hg) (fun c fz e => by cases e; exact ht rfl)⟩
theorem others_of {B b : Nat} {w w' : World} (ho : Lib.OthersKept 5 (some b) w w') (hs : w.heap.size ≤ w'.heap.size) (hb : ∃ cs t fr, w.heap[b]? = some (.cells cs t fr)) : Others B w w' := by
  refine ⟨hs, fun k o _ hk hc => ho k o hk (fun e => ?_) (fun c fz e => ?_)⟩
  · cases e
    obtain ⟨cs, t, fr, hb⟩ := hb
    rw [hb] at hk
    cases hk
    cases hc
  · subst e; cases hc
theorem others_below {B : Nat} {w w' : World} (hb : Below w.heap.size w w') : Others B w w' :=
  ⟨hb.size, fun k o _ hk _ => (hb.block k (Array.getElem?_eq_some_iff.1 hk).1).trans hk⟩
theorem others_cell {B : Nat} {w w' : World} {a : Addr} {v : Value} (h : Others B w w') (hc : ∃ cs t fr, w'.heap[a.block]? = some (.cells cs t fr)) : Others B w (w'.setCell a v) := by
  refine ⟨by have := h.1; simpa [World.setCell] using this, fun k o hB hk ho => ?_⟩
  rw [Below.heap_setCell _ _ _ _ (fun e => ?_)]
  · exact h.2 k o hB hk ho
  · have h1 := h.2 k o hB hk ho
    obtain ⟨cs, t, fr, hc⟩ := hc
    rw [e, hc] at h1
    cases h1
    cases ho
theorem others_trans {B : Nat} {a b c : World} (h : Others B a b) (k : Others B b c) : Others B a c :=
  ⟨Nat.le_trans h.1 k.1, fun i o hi e ho => k.2 i o hi (h.2 i o hi e ho) ho⟩
theorem bld_keepA {B b : Nat} {p : Value} {bs : List Value} {w w' : World} (h : Lib.BuilderAtF 62 5 B b p bs w)
    (hk : ∀ k cs t fr, w.heap[k]? = some (.cells cs t fr) → (k = b ∨ t = 5) → w'.heap[k]? = some (.cells cs t fr)) : Lib.BuilderAtF 62 5 B b p bs w' := by
  obtain ⟨hB, v, hb, ⟨hl, hown⟩, hne⟩ := h
  refine ⟨hB, v, hk _ _ _ _ hb (.inl rfl), ⟨hl, ?_⟩, hne⟩
  rcases hown with h0 | ⟨g, cap, cur, fz, hv, hg, hc, r⟩
  · exact .inl h0
  · exact .inr ⟨g, cap, cur, fz, hv, hg, hk _ _ _ _ hc (.inr rfl), r⟩
theorem bld_keep {B b : Nat} {l : List UInt8} {w w' : World} (h : Bld B b l w)
    (hk : ∀ k cs t fr, w.heap[k]? = some (.cells cs t fr) → (k = b ∨ t = 5) → w'.heap[k]? = some (.cells cs t fr)) : Bld B b l w' := by
  rcases h with h | h
  · exact .inl (bld_keepA h hk)
  · exact .inr (bld_keepA h hk)
theorem bld_calm {B Bm b : Nat} {l : List UInt8} {w w' : World} (h : Bld B b l w) (hc : Range.Calm Bm w w') : Bld B b l w' := bld_keep h fun k cs t fr hk _ => hc.cells hk
theorem bld_below {B b : Nat} {l : List UInt8} {w w' : World} (h : Bld B b l w) (hb : Below w.heap.size w w') : Bld B b l w' :=
  bld_keep h fun k cs t fr hk _ => (hb.block k (Array.getElem?_eq_some_iff.1 hk).1).trans hk
theorem bld_alloc {B b : Nat} {l : List UInt8} {w : World} (h : Bld B b l w) (o : Obj) : Bld B b l (w.alloc o) :=
  bld_keep h fun k cs t fr hk _ => (Below.heap_alloc w o k (Array.getElem?_eq_some_iff.1 hk).1).trans hk
theorem bld_cell {B b g : Nat} {l : List UInt8} {t : TypeId} {cs : List Value} {w : World} (h : Bld B b l w) (ha : At w g t cs) (hg : g ≠ b) (ht : t ≠ 5) (j : Nat) (v : Value) : Bld B b l (w.setCell ⟨g, j, none⟩ v) :=
  bld_keep h fun k cs t' fr hk hor => (Below.heap_setCell w ⟨g, j, none⟩ v k (fun e => by
    have e' : k = g := e
    subst e'
    rcases hor with h1 | h1
    · exact hg h1
    · rw [ha.heap] at hk; cases hk; exact ht h1)).trans hk
theorem bld_mono {B B' b : Nat} {l : List UInt8} {w : World} (h : Bld B b l w) (hB : B' ≤ B) : Bld B' b l w := by
  rcases h with ⟨h1, v, hb, ⟨hl, hown⟩, hne⟩ | ⟨h1, v, hb, ⟨hl, hown⟩, hne⟩
  · refine .inl ⟨Nat.le_trans hB h1, v, hb, ⟨hl, ?_⟩, hne⟩
    rcases hown with h0 | ⟨g, cap, cur, fz, hv, hg, r⟩
    · exact .inl h0
    · exact .inr ⟨g, cap, cur, fz, hv, Nat.le_trans hB hg, r⟩
  · refine .inr ⟨Nat.le_trans hB h1, v, hb, ⟨hl, ?_⟩, hne⟩
    rcases hown with h0 | ⟨g, cap, cur, fz, hv, hg, r⟩
    · exact .inl h0
    · exact .inr ⟨g, cap, cur, fz, hv, Nat.le_trans hB hg, r⟩
theorem bld_block {B b : Nat} {l : List UInt8} {w : World} (h : Bld B b l w) : ∃ cs t fr, w.heap[b]? = some (.cells cs t fr) := by
  rcases h with ⟨_, v, hb, _⟩ | ⟨_, v, hb, _⟩ <;> exact ⟨_, _, _, hb⟩
theorem at_calm {Bm g : Nat} {t : TypeId} {cs : List Value} {w w' : World} (h : At w g t cs) (hc : Range.Calm Bm w w') : At w' g t cs := ⟨hc.cells h.heap⟩
theorem at_go {g : Nat} {t : TypeId} {cs : List Value} {w w' : World} (h : At w g t cs) (hb : Below w.heap.size w w') : At w' g t cs := h.below hb h.lt
theorem begin_ok (key first : ByteArray) (hk : key.size = 32) (hf : first.size = 16) (w : World) :
    Calls Try.prog 41 #[.string key, .string first] w fun e w' => e = .returned (.tuple #[.pointer (some ⟨w.heap.size, 0, none⟩), .int .i64 0]) ∧ At w' w.heap.size 49 (b8s (cipher key.data.toList)) ∧ Below w.heap.size w w' := by
  have HK := Aside0.mk hk
  have s1 : ((first.size : Int) != 16) = false := by rw [hf]; rfl
  go_enter Try.func41, Try.ntmps41
  go_wp2_with (first | (go_at_call 17; (with_reducible refine (new_ok key HK.out _).mono ?_); rintro e w' ⟨rfl, hc, hb⟩; have HC := Aside0.mk (And.intro hc hb); clear hc hb))
  go_ret2
  exact ⟨rfl, HC.out.1, HC.out.2⟩
theorem begin_arg (key first : ByteArray) (h : ¬ (key.size = 32 ∧ first.size = 16)) (w : World) :
    Calls Try.prog 41 #[.string key, .string first] w fun e w' => e = .returned (.tuple #[.pointer none, .int .i64 1]) ∧ w' = w := by
  by_cases hf : first.size = 16
  · have HK : Aside0 (key.size ≠ 32) := ⟨fun e => h ⟨e, hf⟩⟩
    have s1 : ((first.size : Int) != 16) = false := by rw [hf]; rfl
    clear h
    go_enter Try.func41, Try.ntmps41
    go_wp2_with (first | (go_at_call 17; (with_reducible refine (new_arg key HK.out _).mono ?_); rintro e w' ⟨rfl, rfl⟩))
    go_ret2
    exact ⟨rfl, rfl⟩
  · have s1 : ((first.size : Int) != 16) = true := by rw [bne_iff_ne]; omega
    clear h
    go_enter Try.func41, Try.ntmps41
    go_wp2
    go_ret2
    exact ⟨rfl, rfl⟩
end Go.Proofs.Ytfbcgpgpfpnpnaa.Given
