/-
  No cell of these rows narrows 'for every input' (looked for: loops, veiled, ifaces, maps, wideKeys, modest, calm, conditions, laid).
  DERIVED. THE GIVEN ROWS OF THIS SEAT. 6 by the template 'for every input the law returns true; each argument reads behind the call as it read before'; 0 by the template 'total and deterministic' (their statements: YtdegeodegjmddaaTotals.lean).
  GIVEN WITH THE SEED: the statements are not yours to turn. If you find one false, say at which input.
  Laid BY PROGRAM, IN A SANDBOX (cutbox-rows.mjs): the forced cells as the released guide's own fill.sh prints them over the translation 6c2a69801eceec8b… (all of the seat's roots in one cut). By AI agents, Wed Nov 11 2026. No macro, syntax, notation, axiom, sorry.
-/
import Derived.Test.YtdegeodegjmddaaChecked
import GoSem.Claim
import GoSem.ClaimJoined
import GoSem.ClaimMapViews
import Derived.JoinedTies
import Derived.KernelRfl
namespace Go.Proofs.Ytdegeodegjmddaa
/- THE CELL 'sum', in the pinned program and in every row, IS THE sha256 OF THE DUMP (.gsa) THAT YtdegeodegjmddaaProg.lean LOADS. Nothing in Lean hashes anything: it is a label: what it is worth is what the hold of that sum in a sandbox is worth. -/
noncomputable def Try.pinned : Pinned := { name := "ytdegeodegjmddaa", sum := "6c2a69801eceec8b54d87e28fb3698fce6254a356da67529314c31121843cb8f", checked := Try.checked }
namespace Rows
def none {H : Type} : Left H := { results := [], args := [] }

/-- 'hamperlaw23.SealOne': WHATEVER THE INPUT: true; the input reads as it did. -/
def sealOneSpec : ChangeSpec := { name := "sealOne", fn := fun _ => fun
  | [d1, d2, d3] => { results := [.lit (.bool true)], args := [d1, d2, d3] }
  | _ => none }
def sealOneRow : OpenClaim := { program := "ytdegeodegjmddaa", sum := "6c2a69801eceec8b54d87e28fb3698fce6254a356da67529314c31121843cb8f", func := "hamper/hamperlaw23.SealOne", spec := "sealOne", inPlace := ["internal/abi.NoEscape", "internal/bytealg.MakeNoZero"], unfollowed := true, recurses := true, apart := false }
def SealOneSaid : Prop := sealOneRow.holds Try.pinned (OpenSpec.ofChange sealOneSpec)

/-- ITS FALSE NEIGHBOUR: 'it returns false'. Refute it at one input. -/
def sealOneWrong : ChangeSpec := { name := "sealOne", fn := fun _ => fun
  | [d1, d2, d3] => { results := [.lit (.bool false)], args := [d1, d2, d3] }
  | _ => none }
def SealOneWrongFalsely : Prop := sealOneRow.holds Try.pinned (OpenSpec.ofChange sealOneWrong)

/-- 'hamperlaw23.SealCut': WHATEVER THE INPUT: true; the input reads as it did. -/
def sealCutSpec : ChangeSpec := { name := "sealCut", fn := fun _ => fun
  | [d1, d2, d3, d4] => { results := [.lit (.bool true)], args := [d1, d2, d3, d4] }
  | _ => none }
def sealCutRow : OpenClaim := { program := "ytdegeodegjmddaa", sum := "6c2a69801eceec8b54d87e28fb3698fce6254a356da67529314c31121843cb8f", func := "hamper/hamperlaw23.SealCut", spec := "sealCut", inPlace := ["internal/abi.NoEscape", "internal/bytealg.MakeNoZero"], unfollowed := true, recurses := true, apart := false }
def SealCutSaid : Prop := sealCutRow.holds Try.pinned (OpenSpec.ofChange sealCutSpec)

/-- ITS FALSE NEIGHBOUR: 'it returns false'. Refute it at one input. -/
def sealCutWrong : ChangeSpec := { name := "sealCut", fn := fun _ => fun
  | [d1, d2, d3, d4] => { results := [.lit (.bool false)], args := [d1, d2, d3, d4] }
  | _ => none }
def SealCutWrongFalsely : Prop := sealCutRow.holds Try.pinned (OpenSpec.ofChange sealCutWrong)

/-- 'hamperlaw23.SealLocks': WHATEVER THE INPUT: true; the input reads as it did. -/
def sealLocksSpec : ChangeSpec := { name := "sealLocks", fn := fun _ => fun
  | [d1, d2] => { results := [.lit (.bool true)], args := [d1, d2] }
  | _ => none }
def sealLocksRow : OpenClaim := { program := "ytdegeodegjmddaa", sum := "6c2a69801eceec8b54d87e28fb3698fce6254a356da67529314c31121843cb8f", func := "hamper/hamperlaw23.SealLocks", spec := "sealLocks", inPlace := ["internal/abi.NoEscape", "internal/bytealg.MakeNoZero"], unfollowed := true, recurses := true, apart := false }
def SealLocksSaid : Prop := sealLocksRow.holds Try.pinned (OpenSpec.ofChange sealLocksSpec)

/-- ITS FALSE NEIGHBOUR: 'it returns false'. Refute it at one input. -/
def sealLocksWrong : ChangeSpec := { name := "sealLocks", fn := fun _ => fun
  | [d1, d2] => { results := [.lit (.bool false)], args := [d1, d2] }
  | _ => none }
def SealLocksWrongFalsely : Prop := sealLocksRow.holds Try.pinned (OpenSpec.ofChange sealLocksWrong)

/-- 'hamperlaw23.SealOpens': WHATEVER THE INPUT: true; the input reads as it did. -/
def sealOpensSpec : ChangeSpec := { name := "sealOpens", fn := fun _ => fun
  | [d1, d2] => { results := [.lit (.bool true)], args := [d1, d2] }
  | _ => none }
def sealOpensRow : OpenClaim := { program := "ytdegeodegjmddaa", sum := "6c2a69801eceec8b54d87e28fb3698fce6254a356da67529314c31121843cb8f", func := "hamper/hamperlaw23.SealOpens", spec := "sealOpens", inPlace := ["internal/abi.NoEscape", "internal/bytealg.MakeNoZero"], unfollowed := true, recurses := true, apart := false }
def SealOpensSaid : Prop := sealOpensRow.holds Try.pinned (OpenSpec.ofChange sealOpensSpec)

/-- ITS FALSE NEIGHBOUR: 'it returns false'. Refute it at one input. -/
def sealOpensWrong : ChangeSpec := { name := "sealOpens", fn := fun _ => fun
  | [d1, d2] => { results := [.lit (.bool false)], args := [d1, d2] }
  | _ => none }
def SealOpensWrongFalsely : Prop := sealOpensRow.holds Try.pinned (OpenSpec.ofChange sealOpensWrong)

/-- 'hamperlaw23.SealNames': WHATEVER THE INPUT: true; the input reads as it did. -/
def sealNamesSpec : ChangeSpec := { name := "sealNames", fn := fun _ => fun
  | [] => { results := [.lit (.bool true)], args := [] }
  | _ => none }
def sealNamesRow : OpenClaim := { program := "ytdegeodegjmddaa", sum := "6c2a69801eceec8b54d87e28fb3698fce6254a356da67529314c31121843cb8f", func := "hamper/hamperlaw23.SealNames", spec := "sealNames", inPlace := ["internal/abi.NoEscape", "internal/bytealg.MakeNoZero"], unfollowed := true, recurses := true, apart := false }
def SealNamesSaid : Prop := sealNamesRow.holds Try.pinned (OpenSpec.ofChange sealNamesSpec)

/-- ITS FALSE NEIGHBOUR: 'it returns false'. Refute it at one input. -/
def sealNamesWrong : ChangeSpec := { name := "sealNames", fn := fun _ => fun
  | [] => { results := [.lit (.bool false)], args := [] }
  | _ => none }
def SealNamesWrongFalsely : Prop := sealNamesRow.holds Try.pinned (OpenSpec.ofChange sealNamesWrong)

/-- 'hamperlaw23.SealBack': WHATEVER THE INPUT: true; the input reads as it did. -/
def sealBackSpec : ChangeSpec := { name := "sealBack", fn := fun _ => fun
  | [d1, d2, d3] => { results := [.lit (.bool true)], args := [d1, d2, d3] }
  | _ => none }
def sealBackRow : OpenClaim := { program := "ytdegeodegjmddaa", sum := "6c2a69801eceec8b54d87e28fb3698fce6254a356da67529314c31121843cb8f", func := "hamper/hamperlaw23.SealBack", spec := "sealBack", inPlace := ["internal/abi.NoEscape", "internal/bytealg.MakeNoZero"], unfollowed := true, recurses := true, apart := false }
def SealBackSaid : Prop := sealBackRow.holds Try.pinned (OpenSpec.ofChange sealBackSpec)

/-- ITS FALSE NEIGHBOUR: 'it returns false'. Refute it at one input. -/
def sealBackWrong : ChangeSpec := { name := "sealBack", fn := fun _ => fun
  | [d1, d2, d3] => { results := [.lit (.bool false)], args := [d1, d2, d3] }
  | _ => none }
def SealBackWrongFalsely : Prop := sealBackRow.holds Try.pinned (OpenSpec.ofChange sealBackWrong)

/- THE SECOND FORM. 'bulk': how many values and letters a reading holds, each counted each time it is reached (what is shared counts as often as it is met; a slice's spare places count too). A statement '..UptoSaid' is the law's where the arguments, and the package variables that the reading takes, are together of bulk at most 1048576: NARROWER than '..Said'. Prove '..Said' where nothing that the law and all that it calls make is longer than what came in: it says more and counts as full. Else prove '..UptoSaid'. A law counts once. -/
mutual
def uptoBulk {H : Type} : DataW H → Nat
  | .lit (.string bytes) => bytes.length + 1
  | .lit _ => 1
  | .nil => 1
  | .ptr d => uptoBulk d + 1
  | .slice elems spare => uptoBulkAll elems + uptoBulkAll spare + 1
  | .agg parts => uptoBulkAll parts + 1
  | .iface _ d => uptoBulk d + 1
  | .map entries => uptoBulkEntries entries + 1
  | .held _ => 1
def uptoBulkAll {H : Type} : List (DataW H) → Nat
  | [] => 0
  | d :: r => uptoBulk d + uptoBulkAll r
def uptoBulkEntries {H : Type} : List (Lit × DataW H) → Nat
  | [] => 0
  | x :: r => uptoBulkEntry x + uptoBulkEntries r
def uptoBulkEntry {H : Type} : Lit × DataW H → Nat
  | (.string bytes, d) => bytes.length + uptoBulk d + 1
  | (_, d) => uptoBulk d + 1
 end
def uptoSmall : (H : Type) → List (DataW H) → Bool := fun _ ds => decide (uptoBulkAll ds ≤ 1048576)
def OpenSpec.upto (s : _root_.Go.ChangeSpec) : _root_.Go.OpenSpec := { _root_.Go.OpenSpec.ofChange s with cond := some uptoSmall }

/-- 'hamperlaw23.SealOne', WHERE WHAT IT READS IS OF BULK AT MOST 1048576: true; the input reads as it did. -/
def sealOneUptoRow : OpenClaim := { program := "ytdegeodegjmddaa", sum := "6c2a69801eceec8b54d87e28fb3698fce6254a356da67529314c31121843cb8f", func := "hamper/hamperlaw23.SealOne", spec := "sealOne", inPlace := ["internal/abi.NoEscape", "internal/bytealg.MakeNoZero"], unfollowed := true, recurses := true, apart := false, narrowed := true }
def SealOneUptoSaid : Prop := sealOneUptoRow.holds Try.pinned (OpenSpec.upto sealOneSpec)

/-- 'hamperlaw23.SealCut', WHERE WHAT IT READS IS OF BULK AT MOST 1048576: true; the input reads as it did. -/
def sealCutUptoRow : OpenClaim := { program := "ytdegeodegjmddaa", sum := "6c2a69801eceec8b54d87e28fb3698fce6254a356da67529314c31121843cb8f", func := "hamper/hamperlaw23.SealCut", spec := "sealCut", inPlace := ["internal/abi.NoEscape", "internal/bytealg.MakeNoZero"], unfollowed := true, recurses := true, apart := false, narrowed := true }
def SealCutUptoSaid : Prop := sealCutUptoRow.holds Try.pinned (OpenSpec.upto sealCutSpec)

/-- 'hamperlaw23.SealLocks', WHERE WHAT IT READS IS OF BULK AT MOST 1048576: true; the input reads as it did. -/
def sealLocksUptoRow : OpenClaim := { program := "ytdegeodegjmddaa", sum := "6c2a69801eceec8b54d87e28fb3698fce6254a356da67529314c31121843cb8f", func := "hamper/hamperlaw23.SealLocks", spec := "sealLocks", inPlace := ["internal/abi.NoEscape", "internal/bytealg.MakeNoZero"], unfollowed := true, recurses := true, apart := false, narrowed := true }
def SealLocksUptoSaid : Prop := sealLocksUptoRow.holds Try.pinned (OpenSpec.upto sealLocksSpec)

/-- 'hamperlaw23.SealOpens', WHERE WHAT IT READS IS OF BULK AT MOST 1048576: true; the input reads as it did. -/
def sealOpensUptoRow : OpenClaim := { program := "ytdegeodegjmddaa", sum := "6c2a69801eceec8b54d87e28fb3698fce6254a356da67529314c31121843cb8f", func := "hamper/hamperlaw23.SealOpens", spec := "sealOpens", inPlace := ["internal/abi.NoEscape", "internal/bytealg.MakeNoZero"], unfollowed := true, recurses := true, apart := false, narrowed := true }
def SealOpensUptoSaid : Prop := sealOpensUptoRow.holds Try.pinned (OpenSpec.upto sealOpensSpec)

/-- 'hamperlaw23.SealNames', WHERE WHAT IT READS IS OF BULK AT MOST 1048576: true; the input reads as it did. -/
def sealNamesUptoRow : OpenClaim := { program := "ytdegeodegjmddaa", sum := "6c2a69801eceec8b54d87e28fb3698fce6254a356da67529314c31121843cb8f", func := "hamper/hamperlaw23.SealNames", spec := "sealNames", inPlace := ["internal/abi.NoEscape", "internal/bytealg.MakeNoZero"], unfollowed := true, recurses := true, apart := false, narrowed := true }
def SealNamesUptoSaid : Prop := sealNamesUptoRow.holds Try.pinned (OpenSpec.upto sealNamesSpec)

/-- 'hamperlaw23.SealBack', WHERE WHAT IT READS IS OF BULK AT MOST 1048576: true; the input reads as it did. -/
def sealBackUptoRow : OpenClaim := { program := "ytdegeodegjmddaa", sum := "6c2a69801eceec8b54d87e28fb3698fce6254a356da67529314c31121843cb8f", func := "hamper/hamperlaw23.SealBack", spec := "sealBack", inPlace := ["internal/abi.NoEscape", "internal/bytealg.MakeNoZero"], unfollowed := true, recurses := true, apart := false, narrowed := true }
def SealBackUptoSaid : Prop := sealBackUptoRow.holds Try.pinned (OpenSpec.upto sealBackSpec)

end Rows
end Go.Proofs.Ytdegeodegjmddaa
