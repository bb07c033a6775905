/- Two hashes beside each other. Conditions: as each theorem names them. -/
import Derived.Test.YtbafbpfpnfnikaaShaW
import Derived.Lib.QuietBelow
namespace Go.Proofs.Ytbafbpfpnfnikaa.Given
open Go.RowKit Go.Proofs.YtbafbpfpnfnikaaW.PrintWords Go.Proofs.YtbafbpfpnfnikaaW.PrintLast Go.Proofs.YtbafbpfpnfnikaaW.PrintMore
open Go.Proofs.Ytbafbpfpnfnikaa.Row Go.Proofs.Ytbafbpfpnfnikaa.Row.At
set_option linter.unusedVariables false
set_option linter.unusedSimpArgs false
/-- One hash of the call's own. -/
structure OneH (w : World) (g : Nat) (x : ByteArray) (W : World) : Prop where
  hg : Ate W g x
  bel : Below w.heap.size w W
  bg : w.heap.size ≤ g
/-- Two hashes of the call's own. -/
structure TwoH (w : World) (g : Nat) (x : ByteArray) (k : Nat) (y : ByteArray) (W : World) : Prop where
  hg : Ate W g x
  hk : Ate W k y
  bel : Below w.heap.size w W
  ne : g ≠ k
  bg : w.heap.size ≤ g
  bk : w.heap.size ≤ k
section
variable {w W W' : World} {g k n : Nat} {x y z : ByteArray}
theorem OneH.go (h : OneH w g x W) (hb : Below W.heap.size W W') : OneH w g x W' := ⟨h.hg.go hb, h.bel.trans (hb.mono h.bel.size), h.bg⟩
theorem OneH.new (hn : Ate W' W.heap.size x) (hb : Below W.heap.size W W') (h : Below w.heap.size w W) : OneH w W.heap.size x W' := ⟨hn, h.trans (hb.mono h.size), h.size⟩
theorem OneH.add (h : OneH w g x W) (ha : Ate W' g z) (hg : Gr g W W') : OneH w g z W' := ⟨ha, hg.bel h.bel h.bel.size h.bg, h.bg⟩
theorem OneH.copy (h : OneH w g x W) (hn : Ate W' W.heap.size y) (hb : Below W.heap.size W W') : TwoH w g x W.heap.size y W' :=
  ⟨h.hg.go hb, hn, h.bel.trans (hb.mono h.bel.size), by have := h.hg.lt; omega, h.bg, h.bel.size⟩
theorem TwoH.go (h : TwoH w g x k y W) (hb : Below W.heap.size W W') : TwoH w g x k y W' := ⟨h.hg.go hb, h.hk.go hb, h.bel.trans (hb.mono h.bel.size), h.ne, h.bg, h.bk⟩
theorem TwoH.addG (h : TwoH w g x k y W) (ha : Ate W' g z) (hg : Gr g W W') : TwoH w g z k y W' := ⟨ha, h.hk.gr hg h.ne.symm, hg.bel h.bel h.bel.size h.bg, h.ne, h.bg, h.bk⟩
theorem TwoH.addK (h : TwoH w g x k y W) (ha : Ate W' k z) (hg : Gr k W W') : TwoH w g x k z W' := ⟨h.hg.gr hg h.ne, ha, hg.bel h.bel h.bel.size h.bk, h.ne, h.bg, h.bk⟩
theorem TwoH.other (h : TwoH w g x k y W) (hg : Gr n W W') (hn : W.heap.size ≤ n) : TwoH w g x k y W' :=
  ⟨h.hg.gr hg (by have := h.hg.lt; omega), h.hk.gr hg (by have := h.hk.lt; omega), hg.bel h.bel h.bel.size (Nat.le_trans h.bel.size hn), h.ne, h.bg, h.bk⟩
theorem TwoH.kept (h : TwoH w g x k y W) (hb : Gr n W W') (hn : n ≠ g) (hm : n ≠ k) (hw : w.heap.size ≤ n) : TwoH w g x k y W' :=
  ⟨h.hg.gr hb (fun e => hn e.symm), h.hk.gr hb (fun e => hm e.symm), hb.bel h.bel h.bel.size hw, h.ne, h.bg, h.bk⟩
end
theorem ba_empty (x : ByteArray) : x ++ (⟨#[]⟩ : ByteArray) = x := by apply ByteArray.ext; simp
end Go.Proofs.Ytbafbpfpnfnikaa.Given
