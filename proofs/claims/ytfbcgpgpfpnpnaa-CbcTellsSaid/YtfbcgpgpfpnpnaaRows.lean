/-
  No cell of these rows narrows 'for every input' (looked for: loops, veiled, ifaces, maps, wideKeys, modest, calm, conditions, laid).
  DERIVED. THE GIVEN ROWS OF THIS SEAT. 11 by the template 'for every input the law returns true; each argument reads behind the call as it read before'; 0 by the template 'total and deterministic' (their statements: YtfbcgpgpfpnpnaaTotals.lean).
  GIVEN WITH THE SEED: the statements are not yours to turn. If you find one false, say at which input.
  Laid BY PROGRAM, IN A SANDBOX (cutbox-rows.mjs): the forced cells as the released guide's own fill.sh prints them over the translation c188187d27197126… (all of the seat's roots in one cut). By AI agents, Wed Nov 11 2026. No macro, syntax, notation, axiom, sorry.
-/
import Derived.Test.YtfbcgpgpfpnpnaaChecked
import GoSem.Claim
import GoSem.ClaimJoined
import GoSem.ClaimMapViews
import Derived.JoinedTies
import Derived.KernelRfl
namespace Go.Proofs.Ytfbcgpgpfpnpnaa
/- THE CELL 'sum', in the pinned program and in every row, IS THE sha256 OF THE DUMP (.gsa) THAT YtfbcgpgpfpnpnaaProg.lean LOADS. Nothing in Lean hashes anything: it is a label: what it is worth is what the hold of that sum in a sandbox is worth. -/
noncomputable def Try.pinned : Pinned := { name := "ytfbcgpgpfpnpnaa", sum := "c188187d271971264207dd12e3df55e8b81c024424abdb4400e4fb923bbf2ba9", checked := Try.checked }
namespace Rows
def none {H : Type} : Left H := { results := [], args := [] }

/-- 'hamperlaw09.AesNames': WHATEVER THE INPUT: true; the input reads as it did. -/
def aesNamesSpec : ChangeSpec := { name := "aesNames", fn := fun _ => fun
  | [] => { results := [.lit (.bool true)], args := [] }
  | _ => none }
def aesNamesRow : OpenClaim := { program := "ytfbcgpgpfpnpnaa", sum := "c188187d271971264207dd12e3df55e8b81c024424abdb4400e4fb923bbf2ba9", func := "hamper/hamperlaw09.AesNames", spec := "aesNames", unfollowed := true, recurses := true, apart := false }
def AesNamesSaid : Prop := aesNamesRow.holds Try.pinned (OpenSpec.ofChange aesNamesSpec)

/-- ITS FALSE NEIGHBOUR: 'it returns false'. Refute it at one input. -/
def aesNamesWrong : ChangeSpec := { name := "aesNames", fn := fun _ => fun
  | [] => { results := [.lit (.bool false)], args := [] }
  | _ => none }
def AesNamesWrongFalsely : Prop := aesNamesRow.holds Try.pinned (OpenSpec.ofChange aesNamesWrong)

/-- 'hamperlaw09.AesBlocks': WHATEVER THE INPUT: true; the input reads as it did. -/
def aesBlocksSpec : ChangeSpec := { name := "aesBlocks", fn := fun _ => fun
  | [d1, d2] => { results := [.lit (.bool true)], args := [d1, d2] }
  | _ => none }
def aesBlocksRow : OpenClaim := { program := "ytfbcgpgpfpnpnaa", sum := "c188187d271971264207dd12e3df55e8b81c024424abdb4400e4fb923bbf2ba9", func := "hamper/hamperlaw09.AesBlocks", spec := "aesBlocks", unfollowed := true, recurses := true, apart := false }
def AesBlocksSaid : Prop := aesBlocksRow.holds Try.pinned (OpenSpec.ofChange aesBlocksSpec)

/-- ITS FALSE NEIGHBOUR: 'it returns false'. Refute it at one input. -/
def aesBlocksWrong : ChangeSpec := { name := "aesBlocks", fn := fun _ => fun
  | [d1, d2] => { results := [.lit (.bool false)], args := [d1, d2] }
  | _ => none }
def AesBlocksWrongFalsely : Prop := aesBlocksRow.holds Try.pinned (OpenSpec.ofChange aesBlocksWrong)

/-- 'hamperlaw09.AesBack': WHATEVER THE INPUT: true; the input reads as it did. -/
def aesBackSpec : ChangeSpec := { name := "aesBack", fn := fun _ => fun
  | [d1, d2, d3] => { results := [.lit (.bool true)], args := [d1, d2, d3] }
  | _ => none }
def aesBackRow : OpenClaim := { program := "ytfbcgpgpfpnpnaa", sum := "c188187d271971264207dd12e3df55e8b81c024424abdb4400e4fb923bbf2ba9", func := "hamper/hamperlaw09.AesBack", spec := "aesBack", unfollowed := true, recurses := true, apart := false }
def AesBackSaid : Prop := aesBackRow.holds Try.pinned (OpenSpec.ofChange aesBackSpec)

/-- ITS FALSE NEIGHBOUR: 'it returns false'. Refute it at one input. -/
def aesBackWrong : ChangeSpec := { name := "aesBack", fn := fun _ => fun
  | [d1, d2, d3] => { results := [.lit (.bool false)], args := [d1, d2, d3] }
  | _ => none }
def AesBackWrongFalsely : Prop := aesBackRow.holds Try.pinned (OpenSpec.ofChange aesBackWrong)

/-- 'hamperlaw09.AesAgain': WHATEVER THE INPUT: true; the input reads as it did. -/
def aesAgainSpec : ChangeSpec := { name := "aesAgain", fn := fun _ => fun
  | [d1, d2] => { results := [.lit (.bool true)], args := [d1, d2] }
  | _ => none }
def aesAgainRow : OpenClaim := { program := "ytfbcgpgpfpnpnaa", sum := "c188187d271971264207dd12e3df55e8b81c024424abdb4400e4fb923bbf2ba9", func := "hamper/hamperlaw09.AesAgain", spec := "aesAgain", unfollowed := true, recurses := true, apart := false }
def AesAgainSaid : Prop := aesAgainRow.holds Try.pinned (OpenSpec.ofChange aesAgainSpec)

/-- ITS FALSE NEIGHBOUR: 'it returns false'. Refute it at one input. -/
def aesAgainWrong : ChangeSpec := { name := "aesAgain", fn := fun _ => fun
  | [d1, d2] => { results := [.lit (.bool false)], args := [d1, d2] }
  | _ => none }
def AesAgainWrongFalsely : Prop := aesAgainRow.holds Try.pinned (OpenSpec.ofChange aesAgainWrong)

/-- 'hamperlaw09.AesMany': WHATEVER THE INPUT: true; the input reads as it did. -/
def aesManySpec : ChangeSpec := { name := "aesMany", fn := fun _ => fun
  | [d1, d2, d3] => { results := [.lit (.bool true)], args := [d1, d2, d3] }
  | _ => none }
def aesManyRow : OpenClaim := { program := "ytfbcgpgpfpnpnaa", sum := "c188187d271971264207dd12e3df55e8b81c024424abdb4400e4fb923bbf2ba9", func := "hamper/hamperlaw09.AesMany", spec := "aesMany", unfollowed := true, recurses := true, apart := false }
def AesManySaid : Prop := aesManyRow.holds Try.pinned (OpenSpec.ofChange aesManySpec)

/-- ITS FALSE NEIGHBOUR: 'it returns false'. Refute it at one input. -/
def aesManyWrong : ChangeSpec := { name := "aesMany", fn := fun _ => fun
  | [d1, d2, d3] => { results := [.lit (.bool false)], args := [d1, d2, d3] }
  | _ => none }
def AesManyWrongFalsely : Prop := aesManyRow.holds Try.pinned (OpenSpec.ofChange aesManyWrong)

/-- 'hamperlaw10.CbcTells': WHATEVER THE INPUT: true; the input reads as it did. -/
def cbcTellsSpec : ChangeSpec := { name := "cbcTells", fn := fun _ => fun
  | [d1, d2, d3, d4] => { results := [.lit (.bool true)], args := [d1, d2, d3, d4] }
  | _ => none }
def cbcTellsRow : OpenClaim := { program := "ytfbcgpgpfpnpnaa", sum := "c188187d271971264207dd12e3df55e8b81c024424abdb4400e4fb923bbf2ba9", func := "hamper/hamperlaw10.CbcTells", spec := "cbcTells", inPlace := ["internal/abi.NoEscape"], unfollowed := true, recurses := true, apart := false }
def CbcTellsSaid : Prop := cbcTellsRow.holds Try.pinned (OpenSpec.ofChange cbcTellsSpec)

/-- ITS FALSE NEIGHBOUR: 'it returns false'. Refute it at one input. -/
def cbcTellsWrong : ChangeSpec := { name := "cbcTells", fn := fun _ => fun
  | [d1, d2, d3, d4] => { results := [.lit (.bool false)], args := [d1, d2, d3, d4] }
  | _ => none }
def CbcTellsWrongFalsely : Prop := cbcTellsRow.holds Try.pinned (OpenSpec.ofChange cbcTellsWrong)

/-- 'hamperlaw10.CbcNames': WHATEVER THE INPUT: true; the input reads as it did. -/
def cbcNamesSpec : ChangeSpec := { name := "cbcNames", fn := fun _ => fun
  | [] => { results := [.lit (.bool true)], args := [] }
  | _ => none }
def cbcNamesRow : OpenClaim := { program := "ytfbcgpgpfpnpnaa", sum := "c188187d271971264207dd12e3df55e8b81c024424abdb4400e4fb923bbf2ba9", func := "hamper/hamperlaw10.CbcNames", spec := "cbcNames", inPlace := ["internal/abi.NoEscape"], unfollowed := true, recurses := true, apart := false }
def CbcNamesSaid : Prop := cbcNamesRow.holds Try.pinned (OpenSpec.ofChange cbcNamesSpec)

/-- ITS FALSE NEIGHBOUR: 'it returns false'. Refute it at one input. -/
def cbcNamesWrong : ChangeSpec := { name := "cbcNames", fn := fun _ => fun
  | [] => { results := [.lit (.bool false)], args := [] }
  | _ => none }
def CbcNamesWrongFalsely : Prop := cbcNamesRow.holds Try.pinned (OpenSpec.ofChange cbcNamesWrong)

/-- 'hamperlaw10.CbcBack': WHATEVER THE INPUT: true; the input reads as it did. -/
def cbcBackSpec : ChangeSpec := { name := "cbcBack", fn := fun _ => fun
  | [d1, d2, d3, d4] => { results := [.lit (.bool true)], args := [d1, d2, d3, d4] }
  | _ => none }
def cbcBackRow : OpenClaim := { program := "ytfbcgpgpfpnpnaa", sum := "c188187d271971264207dd12e3df55e8b81c024424abdb4400e4fb923bbf2ba9", func := "hamper/hamperlaw10.CbcBack", spec := "cbcBack", inPlace := ["internal/abi.NoEscape"], unfollowed := true, recurses := true, apart := false }
def CbcBackSaid : Prop := cbcBackRow.holds Try.pinned (OpenSpec.ofChange cbcBackSpec)

/-- ITS FALSE NEIGHBOUR: 'it returns false'. Refute it at one input. -/
def cbcBackWrong : ChangeSpec := { name := "cbcBack", fn := fun _ => fun
  | [d1, d2, d3, d4] => { results := [.lit (.bool false)], args := [d1, d2, d3, d4] }
  | _ => none }
def CbcBackWrongFalsely : Prop := cbcBackRow.holds Try.pinned (OpenSpec.ofChange cbcBackWrong)

/-- 'hamperlaw10.CbcChain': WHATEVER THE INPUT: true; the input reads as it did. -/
def cbcChainSpec : ChangeSpec := { name := "cbcChain", fn := fun _ => fun
  | [d1, d2, d3, d4] => { results := [.lit (.bool true)], args := [d1, d2, d3, d4] }
  | _ => none }
def cbcChainRow : OpenClaim := { program := "ytfbcgpgpfpnpnaa", sum := "c188187d271971264207dd12e3df55e8b81c024424abdb4400e4fb923bbf2ba9", func := "hamper/hamperlaw10.CbcChain", spec := "cbcChain", inPlace := ["internal/abi.NoEscape"], unfollowed := true, recurses := true, apart := false }
def CbcChainSaid : Prop := cbcChainRow.holds Try.pinned (OpenSpec.ofChange cbcChainSpec)

/-- ITS FALSE NEIGHBOUR: 'it returns false'. Refute it at one input. -/
def cbcChainWrong : ChangeSpec := { name := "cbcChain", fn := fun _ => fun
  | [d1, d2, d3, d4] => { results := [.lit (.bool false)], args := [d1, d2, d3, d4] }
  | _ => none }
def CbcChainWrongFalsely : Prop := cbcChainRow.holds Try.pinned (OpenSpec.ofChange cbcChainWrong)

/-- 'hamperlaw10.CbcBlocks': WHATEVER THE INPUT: true; the input reads as it did. -/
def cbcBlocksSpec : ChangeSpec := { name := "cbcBlocks", fn := fun _ => fun
  | [d1, d2, d3] => { results := [.lit (.bool true)], args := [d1, d2, d3] }
  | _ => none }
def cbcBlocksRow : OpenClaim := { program := "ytfbcgpgpfpnpnaa", sum := "c188187d271971264207dd12e3df55e8b81c024424abdb4400e4fb923bbf2ba9", func := "hamper/hamperlaw10.CbcBlocks", spec := "cbcBlocks", inPlace := ["internal/abi.NoEscape"], unfollowed := true, recurses := true, apart := false }
def CbcBlocksSaid : Prop := cbcBlocksRow.holds Try.pinned (OpenSpec.ofChange cbcBlocksSpec)

/-- ITS FALSE NEIGHBOUR: 'it returns false'. Refute it at one input. -/
def cbcBlocksWrong : ChangeSpec := { name := "cbcBlocks", fn := fun _ => fun
  | [d1, d2, d3] => { results := [.lit (.bool false)], args := [d1, d2, d3] }
  | _ => none }
def CbcBlocksWrongFalsely : Prop := cbcBlocksRow.holds Try.pinned (OpenSpec.ofChange cbcBlocksWrong)

/-- 'hamperlaw10.CbcFrame': WHATEVER THE INPUT: true; the input reads as it did. -/
def cbcFrameSpec : ChangeSpec := { name := "cbcFrame", fn := fun _ => fun
  | [d] => { results := [.lit (.bool true)], args := [d] }
  | _ => none }
def cbcFrameRow : OpenClaim := { program := "ytfbcgpgpfpnpnaa", sum := "c188187d271971264207dd12e3df55e8b81c024424abdb4400e4fb923bbf2ba9", func := "hamper/hamperlaw10.CbcFrame", spec := "cbcFrame", inPlace := ["internal/abi.NoEscape"], unfollowed := true, recurses := true, apart := false }
def CbcFrameSaid : Prop := cbcFrameRow.holds Try.pinned (OpenSpec.ofChange cbcFrameSpec)

/-- ITS FALSE NEIGHBOUR: 'it returns false'. Refute it at one input. -/
def cbcFrameWrong : ChangeSpec := { name := "cbcFrame", fn := fun _ => fun
  | [d] => { results := [.lit (.bool false)], args := [d] }
  | _ => none }
def CbcFrameWrongFalsely : Prop := cbcFrameRow.holds Try.pinned (OpenSpec.ofChange cbcFrameWrong)

/- THE SECOND FORM. 'bulk': how many values and letters a reading holds, each counted each time it is reached (what is shared counts as often as it is met; a slice's spare places count too). A statement '..UptoSaid' is the law's where the arguments, and the package variables that the reading takes, are together of bulk at most 1048576: NARROWER than '..Said'. Prove '..Said' where nothing that the law and all that it calls make is longer than what came in: it says more and counts as full. Else prove '..UptoSaid'. A law counts once. -/
mutual
def uptoBulk {H : Type} : DataW H → Nat
  | .lit (.string bytes) => bytes.length + 1
  | .lit _ => 1
  | .nil => 1
  | .ptr d => uptoBulk d + 1
  | .slice elems spare => uptoBulkAll elems + uptoBulkAll spare + 1
  | .agg parts => uptoBulkAll parts + 1
  | .iface _ d => uptoBulk d + 1
  | .map entries => uptoBulkEntries entries + 1
  | .held _ => 1
def uptoBulkAll {H : Type} : List (DataW H) → Nat
  | [] => 0
  | d :: r => uptoBulk d + uptoBulkAll r
def uptoBulkEntries {H : Type} : List (Lit × DataW H) → Nat
  | [] => 0
  | x :: r => uptoBulkEntry x + uptoBulkEntries r
def uptoBulkEntry {H : Type} : Lit × DataW H → Nat
  | (.string bytes, d) => bytes.length + uptoBulk d + 1
  | (_, d) => uptoBulk d + 1
 end
def uptoSmall : (H : Type) → List (DataW H) → Bool := fun _ ds => decide (uptoBulkAll ds ≤ 1048576)
def OpenSpec.upto (s : _root_.Go.ChangeSpec) : _root_.Go.OpenSpec := { _root_.Go.OpenSpec.ofChange s with cond := some uptoSmall }

/-- 'hamperlaw09.AesNames', WHERE WHAT IT READS IS OF BULK AT MOST 1048576: true; the input reads as it did. -/
def aesNamesUptoRow : OpenClaim := { program := "ytfbcgpgpfpnpnaa", sum := "c188187d271971264207dd12e3df55e8b81c024424abdb4400e4fb923bbf2ba9", func := "hamper/hamperlaw09.AesNames", spec := "aesNames", unfollowed := true, recurses := true, apart := false, narrowed := true }
def AesNamesUptoSaid : Prop := aesNamesUptoRow.holds Try.pinned (OpenSpec.upto aesNamesSpec)

/-- 'hamperlaw09.AesBlocks', WHERE WHAT IT READS IS OF BULK AT MOST 1048576: true; the input reads as it did. -/
def aesBlocksUptoRow : OpenClaim := { program := "ytfbcgpgpfpnpnaa", sum := "c188187d271971264207dd12e3df55e8b81c024424abdb4400e4fb923bbf2ba9", func := "hamper/hamperlaw09.AesBlocks", spec := "aesBlocks", unfollowed := true, recurses := true, apart := false, narrowed := true }
def AesBlocksUptoSaid : Prop := aesBlocksUptoRow.holds Try.pinned (OpenSpec.upto aesBlocksSpec)

/-- 'hamperlaw09.AesBack', WHERE WHAT IT READS IS OF BULK AT MOST 1048576: true; the input reads as it did. -/
def aesBackUptoRow : OpenClaim := { program := "ytfbcgpgpfpnpnaa", sum := "c188187d271971264207dd12e3df55e8b81c024424abdb4400e4fb923bbf2ba9", func := "hamper/hamperlaw09.AesBack", spec := "aesBack", unfollowed := true, recurses := true, apart := false, narrowed := true }
def AesBackUptoSaid : Prop := aesBackUptoRow.holds Try.pinned (OpenSpec.upto aesBackSpec)

/-- 'hamperlaw09.AesAgain', WHERE WHAT IT READS IS OF BULK AT MOST 1048576: true; the input reads as it did. -/
def aesAgainUptoRow : OpenClaim := { program := "ytfbcgpgpfpnpnaa", sum := "c188187d271971264207dd12e3df55e8b81c024424abdb4400e4fb923bbf2ba9", func := "hamper/hamperlaw09.AesAgain", spec := "aesAgain", unfollowed := true, recurses := true, apart := false, narrowed := true }
def AesAgainUptoSaid : Prop := aesAgainUptoRow.holds Try.pinned (OpenSpec.upto aesAgainSpec)

/-- 'hamperlaw09.AesMany', WHERE WHAT IT READS IS OF BULK AT MOST 1048576: true; the input reads as it did. -/
def aesManyUptoRow : OpenClaim := { program := "ytfbcgpgpfpnpnaa", sum := "c188187d271971264207dd12e3df55e8b81c024424abdb4400e4fb923bbf2ba9", func := "hamper/hamperlaw09.AesMany", spec := "aesMany", unfollowed := true, recurses := true, apart := false, narrowed := true }
def AesManyUptoSaid : Prop := aesManyUptoRow.holds Try.pinned (OpenSpec.upto aesManySpec)

/-- 'hamperlaw10.CbcTells', WHERE WHAT IT READS IS OF BULK AT MOST 1048576: true; the input reads as it did. -/
def cbcTellsUptoRow : OpenClaim := { program := "ytfbcgpgpfpnpnaa", sum := "c188187d271971264207dd12e3df55e8b81c024424abdb4400e4fb923bbf2ba9", func := "hamper/hamperlaw10.CbcTells", spec := "cbcTells", inPlace := ["internal/abi.NoEscape"], unfollowed := true, recurses := true, apart := false, narrowed := true }
def CbcTellsUptoSaid : Prop := cbcTellsUptoRow.holds Try.pinned (OpenSpec.upto cbcTellsSpec)

/-- 'hamperlaw10.CbcNames', WHERE WHAT IT READS IS OF BULK AT MOST 1048576: true; the input reads as it did. -/
def cbcNamesUptoRow : OpenClaim := { program := "ytfbcgpgpfpnpnaa", sum := "c188187d271971264207dd12e3df55e8b81c024424abdb4400e4fb923bbf2ba9", func := "hamper/hamperlaw10.CbcNames", spec := "cbcNames", inPlace := ["internal/abi.NoEscape"], unfollowed := true, recurses := true, apart := false, narrowed := true }
def CbcNamesUptoSaid : Prop := cbcNamesUptoRow.holds Try.pinned (OpenSpec.upto cbcNamesSpec)

/-- 'hamperlaw10.CbcBack', WHERE WHAT IT READS IS OF BULK AT MOST 1048576: true; the input reads as it did. -/
def cbcBackUptoRow : OpenClaim := { program := "ytfbcgpgpfpnpnaa", sum := "c188187d271971264207dd12e3df55e8b81c024424abdb4400e4fb923bbf2ba9", func := "hamper/hamperlaw10.CbcBack", spec := "cbcBack", inPlace := ["internal/abi.NoEscape"], unfollowed := true, recurses := true, apart := false, narrowed := true }
def CbcBackUptoSaid : Prop := cbcBackUptoRow.holds Try.pinned (OpenSpec.upto cbcBackSpec)

/-- 'hamperlaw10.CbcChain', WHERE WHAT IT READS IS OF BULK AT MOST 1048576: true; the input reads as it did. -/
def cbcChainUptoRow : OpenClaim := { program := "ytfbcgpgpfpnpnaa", sum := "c188187d271971264207dd12e3df55e8b81c024424abdb4400e4fb923bbf2ba9", func := "hamper/hamperlaw10.CbcChain", spec := "cbcChain", inPlace := ["internal/abi.NoEscape"], unfollowed := true, recurses := true, apart := false, narrowed := true }
def CbcChainUptoSaid : Prop := cbcChainUptoRow.holds Try.pinned (OpenSpec.upto cbcChainSpec)

/-- 'hamperlaw10.CbcBlocks', WHERE WHAT IT READS IS OF BULK AT MOST 1048576: true; the input reads as it did. -/
def cbcBlocksUptoRow : OpenClaim := { program := "ytfbcgpgpfpnpnaa", sum := "c188187d271971264207dd12e3df55e8b81c024424abdb4400e4fb923bbf2ba9", func := "hamper/hamperlaw10.CbcBlocks", spec := "cbcBlocks", inPlace := ["internal/abi.NoEscape"], unfollowed := true, recurses := true, apart := false, narrowed := true }
def CbcBlocksUptoSaid : Prop := cbcBlocksUptoRow.holds Try.pinned (OpenSpec.upto cbcBlocksSpec)

/-- 'hamperlaw10.CbcFrame', WHERE WHAT IT READS IS OF BULK AT MOST 1048576: true; the input reads as it did. -/
def cbcFrameUptoRow : OpenClaim := { program := "ytfbcgpgpfpnpnaa", sum := "c188187d271971264207dd12e3df55e8b81c024424abdb4400e4fb923bbf2ba9", func := "hamper/hamperlaw10.CbcFrame", spec := "cbcFrame", inPlace := ["internal/abi.NoEscape"], unfollowed := true, recurses := true, apart := false, narrowed := true }
def CbcFrameUptoSaid : Prop := cbcFrameUptoRow.holds Try.pinned (OpenSpec.upto cbcFrameSpec)

end Rows
end Go.Proofs.Ytfbcgpgpfpnpnaa
