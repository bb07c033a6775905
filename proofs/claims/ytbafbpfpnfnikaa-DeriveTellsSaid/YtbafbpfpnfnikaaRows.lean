/-
  No cell of these rows narrows 'for every input' (looked for: loops, veiled, ifaces, maps, wideKeys, modest, calm, conditions, laid).
  DERIVED. THE GIVEN ROWS OF THIS SEAT. 11 by the template 'for every input the law returns true; each argument reads behind the call as it read before'; 0 by the template 'total and deterministic' (their statements: YtbafbpfpnfnikaaTotals.lean).
  GIVEN WITH THE SEED: the statements are not yours to turn. If you find one false, say at which input.
  Laid BY PROGRAM, IN A SANDBOX (cutbox-rows.mjs): the forced cells as the released guide's own fill.sh prints them over the translation 1f6a3eb1ee1c835e… (all of the seat's roots in one cut). By AI agents, Wed Nov 11 2026. No macro, syntax, notation, axiom, sorry.
-/
import Derived.Test.YtbafbpfpnfnikaaChecked
import GoSem.Claim
import GoSem.ClaimJoined
import GoSem.ClaimMapViews
import Derived.JoinedTies
import Derived.KernelRfl
namespace Go.Proofs.Ytbafbpfpnfnikaa
/- THE CELL 'sum', in the pinned program and in every row, IS THE sha256 OF THE DUMP (.gsa) THAT YtbafbpfpnfnikaaProg.lean LOADS. Nothing in Lean hashes anything: it is a label: what it is worth is what the hold of that sum in a sandbox is worth. -/
noncomputable def Try.pinned : Pinned := { name := "ytbafbpfpnfnikaa", sum := "1f6a3eb1ee1c835e84b66edf99d42041a5ee120b7c3633b30c0f53c73ed55f3c", checked := Try.checked }
namespace Rows
def none {H : Type} : Left H := { results := [], args := [] }

/-- 'hamperlaw07.ShaAdds': WHATEVER THE INPUT: true; the input reads as it did. -/
def shaAddsSpec : ChangeSpec := { name := "shaAdds", fn := fun _ => fun
  | [d] => { results := [.lit (.bool true)], args := [d] }
  | _ => none }
def shaAddsRow : OpenClaim := { program := "ytbafbpfpnfnikaa", sum := "1f6a3eb1ee1c835e84b66edf99d42041a5ee120b7c3633b30c0f53c73ed55f3c", func := "hamper/hamperlaw07.ShaAdds", spec := "shaAdds", inPlace := ["internal/abi.NoEscape", "internal/bytealg.MakeNoZero"], unfollowed := true, recurses := true, apart := false }
def ShaAddsSaid : Prop := shaAddsRow.holds Try.pinned (OpenSpec.ofChange shaAddsSpec)

/-- ITS FALSE NEIGHBOUR: 'it returns false'. Refute it at one input. -/
def shaAddsWrong : ChangeSpec := { name := "shaAdds", fn := fun _ => fun
  | [d] => { results := [.lit (.bool false)], args := [d] }
  | _ => none }
def ShaAddsWrongFalsely : Prop := shaAddsRow.holds Try.pinned (OpenSpec.ofChange shaAddsWrong)

/-- 'hamperlaw07.ShaSums': WHATEVER THE INPUT: true; the input reads as it did. -/
def shaSumsSpec : ChangeSpec := { name := "shaSums", fn := fun _ => fun
  | [d1, d2] => { results := [.lit (.bool true)], args := [d1, d2] }
  | _ => none }
def shaSumsRow : OpenClaim := { program := "ytbafbpfpnfnikaa", sum := "1f6a3eb1ee1c835e84b66edf99d42041a5ee120b7c3633b30c0f53c73ed55f3c", func := "hamper/hamperlaw07.ShaSums", spec := "shaSums", inPlace := ["internal/abi.NoEscape", "internal/bytealg.MakeNoZero"], unfollowed := true, recurses := true, apart := false }
def ShaSumsSaid : Prop := shaSumsRow.holds Try.pinned (OpenSpec.ofChange shaSumsSpec)

/-- ITS FALSE NEIGHBOUR: 'it returns false'. Refute it at one input. -/
def shaSumsWrong : ChangeSpec := { name := "shaSums", fn := fun _ => fun
  | [d1, d2] => { results := [.lit (.bool false)], args := [d1, d2] }
  | _ => none }
def ShaSumsWrongFalsely : Prop := shaSumsRow.holds Try.pinned (OpenSpec.ofChange shaSumsWrong)

/-- 'hamperlaw07.ShaPieces': WHATEVER THE INPUT: true; the input reads as it did. -/
def shaPiecesSpec : ChangeSpec := { name := "shaPieces", fn := fun _ => fun
  | [d1, d2, d3, d4] => { results := [.lit (.bool true)], args := [d1, d2, d3, d4] }
  | _ => none }
def shaPiecesRow : OpenClaim := { program := "ytbafbpfpnfnikaa", sum := "1f6a3eb1ee1c835e84b66edf99d42041a5ee120b7c3633b30c0f53c73ed55f3c", func := "hamper/hamperlaw07.ShaPieces", spec := "shaPieces", inPlace := ["internal/abi.NoEscape", "internal/bytealg.MakeNoZero"], unfollowed := true, recurses := true, apart := false }
def ShaPiecesSaid : Prop := shaPiecesRow.holds Try.pinned (OpenSpec.ofChange shaPiecesSpec)

/-- ITS FALSE NEIGHBOUR: 'it returns false'. Refute it at one input. -/
def shaPiecesWrong : ChangeSpec := { name := "shaPieces", fn := fun _ => fun
  | [d1, d2, d3, d4] => { results := [.lit (.bool false)], args := [d1, d2, d3, d4] }
  | _ => none }
def ShaPiecesWrongFalsely : Prop := shaPiecesRow.holds Try.pinned (OpenSpec.ofChange shaPiecesWrong)

/-- 'hamperlaw07.ShaHmac': WHATEVER THE INPUT: true; the input reads as it did. -/
def shaHmacSpec : ChangeSpec := { name := "shaHmac", fn := fun _ => fun
  | [d1, d2] => { results := [.lit (.bool true)], args := [d1, d2] }
  | _ => none }
def shaHmacRow : OpenClaim := { program := "ytbafbpfpnfnikaa", sum := "1f6a3eb1ee1c835e84b66edf99d42041a5ee120b7c3633b30c0f53c73ed55f3c", func := "hamper/hamperlaw07.ShaHmac", spec := "shaHmac", inPlace := ["internal/abi.NoEscape", "internal/bytealg.MakeNoZero"], unfollowed := true, recurses := true, apart := false }
def ShaHmacSaid : Prop := shaHmacRow.holds Try.pinned (OpenSpec.ofChange shaHmacSpec)

/-- ITS FALSE NEIGHBOUR: 'it returns false'. Refute it at one input. -/
def shaHmacWrong : ChangeSpec := { name := "shaHmac", fn := fun _ => fun
  | [d1, d2] => { results := [.lit (.bool false)], args := [d1, d2] }
  | _ => none }
def ShaHmacWrongFalsely : Prop := shaHmacRow.holds Try.pinned (OpenSpec.ofChange shaHmacWrong)

/-- 'hamperlaw07.ShaNames': WHATEVER THE INPUT: true; the input reads as it did. -/
def shaNamesSpec : ChangeSpec := { name := "shaNames", fn := fun _ => fun
  | [] => { results := [.lit (.bool true)], args := [] }
  | _ => none }
def shaNamesRow : OpenClaim := { program := "ytbafbpfpnfnikaa", sum := "1f6a3eb1ee1c835e84b66edf99d42041a5ee120b7c3633b30c0f53c73ed55f3c", func := "hamper/hamperlaw07.ShaNames", spec := "shaNames", inPlace := ["internal/abi.NoEscape", "internal/bytealg.MakeNoZero"], unfollowed := true, recurses := true, apart := false }
def ShaNamesSaid : Prop := shaNamesRow.holds Try.pinned (OpenSpec.ofChange shaNamesSpec)

/-- ITS FALSE NEIGHBOUR: 'it returns false'. Refute it at one input. -/
def shaNamesWrong : ChangeSpec := { name := "shaNames", fn := fun _ => fun
  | [] => { results := [.lit (.bool false)], args := [] }
  | _ => none }
def ShaNamesWrongFalsely : Prop := shaNamesRow.holds Try.pinned (OpenSpec.ofChange shaNamesWrong)

/-- 'hamperlaw07.ShaApart': WHATEVER THE INPUT: true; the input reads as it did. -/
def shaApartSpec : ChangeSpec := { name := "shaApart", fn := fun _ => fun
  | [d1, d2, d3, d4] => { results := [.lit (.bool true)], args := [d1, d2, d3, d4] }
  | _ => none }
def shaApartRow : OpenClaim := { program := "ytbafbpfpnfnikaa", sum := "1f6a3eb1ee1c835e84b66edf99d42041a5ee120b7c3633b30c0f53c73ed55f3c", func := "hamper/hamperlaw07.ShaApart", spec := "shaApart", inPlace := ["internal/abi.NoEscape", "internal/bytealg.MakeNoZero"], unfollowed := true, recurses := true, apart := false }
def ShaApartSaid : Prop := shaApartRow.holds Try.pinned (OpenSpec.ofChange shaApartSpec)

/-- ITS FALSE NEIGHBOUR: 'it returns false'. Refute it at one input. -/
def shaApartWrong : ChangeSpec := { name := "shaApart", fn := fun _ => fun
  | [d1, d2, d3, d4] => { results := [.lit (.bool false)], args := [d1, d2, d3, d4] }
  | _ => none }
def ShaApartWrongFalsely : Prop := shaApartRow.holds Try.pinned (OpenSpec.ofChange shaApartWrong)

/-- 'hamperlaw08.DeriveTells': WHATEVER THE INPUT: true; the input reads as it did. -/
def deriveTellsSpec : ChangeSpec := { name := "deriveTells", fn := fun _ => fun
  | [d1, d2, d3, d4] => { results := [.lit (.bool true)], args := [d1, d2, d3, d4] }
  | _ => none }
def deriveTellsRow : OpenClaim := { program := "ytbafbpfpnfnikaa", sum := "1f6a3eb1ee1c835e84b66edf99d42041a5ee120b7c3633b30c0f53c73ed55f3c", func := "hamper/hamperlaw08.DeriveTells", spec := "deriveTells", inPlace := ["internal/abi.NoEscape", "internal/bytealg.MakeNoZero"], unfollowed := true, recurses := true, apart := false }
def DeriveTellsSaid : Prop := deriveTellsRow.holds Try.pinned (OpenSpec.ofChange deriveTellsSpec)

/-- ITS FALSE NEIGHBOUR: 'it returns false'. Refute it at one input. -/
def deriveTellsWrong : ChangeSpec := { name := "deriveTells", fn := fun _ => fun
  | [d1, d2, d3, d4] => { results := [.lit (.bool false)], args := [d1, d2, d3, d4] }
  | _ => none }
def DeriveTellsWrongFalsely : Prop := deriveTellsRow.holds Try.pinned (OpenSpec.ofChange deriveTellsWrong)

/-- 'hamperlaw08.DeriveNames': WHATEVER THE INPUT: true; the input reads as it did. -/
def deriveNamesSpec : ChangeSpec := { name := "deriveNames", fn := fun _ => fun
  | [] => { results := [.lit (.bool true)], args := [] }
  | _ => none }
def deriveNamesRow : OpenClaim := { program := "ytbafbpfpnfnikaa", sum := "1f6a3eb1ee1c835e84b66edf99d42041a5ee120b7c3633b30c0f53c73ed55f3c", func := "hamper/hamperlaw08.DeriveNames", spec := "deriveNames", inPlace := ["internal/abi.NoEscape", "internal/bytealg.MakeNoZero"], unfollowed := true, recurses := true, apart := false }
def DeriveNamesSaid : Prop := deriveNamesRow.holds Try.pinned (OpenSpec.ofChange deriveNamesSpec)

/-- ITS FALSE NEIGHBOUR: 'it returns false'. Refute it at one input. -/
def deriveNamesWrong : ChangeSpec := { name := "deriveNames", fn := fun _ => fun
  | [] => { results := [.lit (.bool false)], args := [] }
  | _ => none }
def DeriveNamesWrongFalsely : Prop := deriveNamesRow.holds Try.pinned (OpenSpec.ofChange deriveNamesWrong)

/-- 'hamperlaw08.DeriveRounds': WHATEVER THE INPUT: true; the input reads as it did. -/
def deriveRoundsSpec : ChangeSpec := { name := "deriveRounds", fn := fun _ => fun
  | [d1, d2, d3, d4] => { results := [.lit (.bool true)], args := [d1, d2, d3, d4] }
  | _ => none }
def deriveRoundsRow : OpenClaim := { program := "ytbafbpfpnfnikaa", sum := "1f6a3eb1ee1c835e84b66edf99d42041a5ee120b7c3633b30c0f53c73ed55f3c", func := "hamper/hamperlaw08.DeriveRounds", spec := "deriveRounds", inPlace := ["internal/abi.NoEscape", "internal/bytealg.MakeNoZero"], unfollowed := true, recurses := true, apart := false }
def DeriveRoundsSaid : Prop := deriveRoundsRow.holds Try.pinned (OpenSpec.ofChange deriveRoundsSpec)

/-- ITS FALSE NEIGHBOUR: 'it returns false'. Refute it at one input. -/
def deriveRoundsWrong : ChangeSpec := { name := "deriveRounds", fn := fun _ => fun
  | [d1, d2, d3, d4] => { results := [.lit (.bool false)], args := [d1, d2, d3, d4] }
  | _ => none }
def DeriveRoundsWrongFalsely : Prop := deriveRoundsRow.holds Try.pinned (OpenSpec.ofChange deriveRoundsWrong)

/-- 'hamperlaw08.DerivePadded': WHATEVER THE INPUT: true; the input reads as it did. -/
def derivePaddedSpec : ChangeSpec := { name := "derivePadded", fn := fun _ => fun
  | [d1, d2, d3] => { results := [.lit (.bool true)], args := [d1, d2, d3] }
  | _ => none }
def derivePaddedRow : OpenClaim := { program := "ytbafbpfpnfnikaa", sum := "1f6a3eb1ee1c835e84b66edf99d42041a5ee120b7c3633b30c0f53c73ed55f3c", func := "hamper/hamperlaw08.DerivePadded", spec := "derivePadded", inPlace := ["internal/abi.NoEscape", "internal/bytealg.MakeNoZero"], unfollowed := true, recurses := true, apart := false }
def DerivePaddedSaid : Prop := derivePaddedRow.holds Try.pinned (OpenSpec.ofChange derivePaddedSpec)

/-- ITS FALSE NEIGHBOUR: 'it returns false'. Refute it at one input. -/
def derivePaddedWrong : ChangeSpec := { name := "derivePadded", fn := fun _ => fun
  | [d1, d2, d3] => { results := [.lit (.bool false)], args := [d1, d2, d3] }
  | _ => none }
def DerivePaddedWrongFalsely : Prop := derivePaddedRow.holds Try.pinned (OpenSpec.ofChange derivePaddedWrong)

/-- 'hamperlaw08.DeriveParts': WHATEVER THE INPUT: true; the input reads as it did. -/
def derivePartsSpec : ChangeSpec := { name := "deriveParts", fn := fun _ => fun
  | [d1, d2, d3, d4] => { results := [.lit (.bool true)], args := [d1, d2, d3, d4] }
  | _ => none }
def derivePartsRow : OpenClaim := { program := "ytbafbpfpnfnikaa", sum := "1f6a3eb1ee1c835e84b66edf99d42041a5ee120b7c3633b30c0f53c73ed55f3c", func := "hamper/hamperlaw08.DeriveParts", spec := "deriveParts", inPlace := ["internal/abi.NoEscape", "internal/bytealg.MakeNoZero"], unfollowed := true, recurses := true, apart := false }
def DerivePartsSaid : Prop := derivePartsRow.holds Try.pinned (OpenSpec.ofChange derivePartsSpec)

/-- ITS FALSE NEIGHBOUR: 'it returns false'. Refute it at one input. -/
def derivePartsWrong : ChangeSpec := { name := "deriveParts", fn := fun _ => fun
  | [d1, d2, d3, d4] => { results := [.lit (.bool false)], args := [d1, d2, d3, d4] }
  | _ => none }
def DerivePartsWrongFalsely : Prop := derivePartsRow.holds Try.pinned (OpenSpec.ofChange derivePartsWrong)

/- THE SECOND FORM. 'bulk': how many values and letters a reading holds, each counted each time it is reached (what is shared counts as often as it is met; a slice's spare places count too). A statement '..UptoSaid' is the law's where the arguments, and the package variables that the reading takes, are together of bulk at most 1048576: NARROWER than '..Said'. Prove '..Said' where nothing that the law and all that it calls make is longer than what came in: it says more and counts as full. Else prove '..UptoSaid'. A law counts once. -/
mutual
def uptoBulk {H : Type} : DataW H → Nat
  | .lit (.string bytes) => bytes.length + 1
  | .lit _ => 1
  | .nil => 1
  | .ptr d => uptoBulk d + 1
  | .slice elems spare => uptoBulkAll elems + uptoBulkAll spare + 1
  | .agg parts => uptoBulkAll parts + 1
  | .iface _ d => uptoBulk d + 1
  | .map entries => uptoBulkEntries entries + 1
  | .held _ => 1
def uptoBulkAll {H : Type} : List (DataW H) → Nat
  | [] => 0
  | d :: r => uptoBulk d + uptoBulkAll r
def uptoBulkEntries {H : Type} : List (Lit × DataW H) → Nat
  | [] => 0
  | x :: r => uptoBulkEntry x + uptoBulkEntries r
def uptoBulkEntry {H : Type} : Lit × DataW H → Nat
  | (.string bytes, d) => bytes.length + uptoBulk d + 1
  | (_, d) => uptoBulk d + 1
 end
def uptoSmall : (H : Type) → List (DataW H) → Bool := fun _ ds => decide (uptoBulkAll ds ≤ 1048576)
def OpenSpec.upto (s : _root_.Go.ChangeSpec) : _root_.Go.OpenSpec := { _root_.Go.OpenSpec.ofChange s with cond := some uptoSmall }

/-- 'hamperlaw07.ShaAdds', WHERE WHAT IT READS IS OF BULK AT MOST 1048576: true; the input reads as it did. -/
def shaAddsUptoRow : OpenClaim := { program := "ytbafbpfpnfnikaa", sum := "1f6a3eb1ee1c835e84b66edf99d42041a5ee120b7c3633b30c0f53c73ed55f3c", func := "hamper/hamperlaw07.ShaAdds", spec := "shaAdds", inPlace := ["internal/abi.NoEscape", "internal/bytealg.MakeNoZero"], unfollowed := true, recurses := true, apart := false, narrowed := true }
def ShaAddsUptoSaid : Prop := shaAddsUptoRow.holds Try.pinned (OpenSpec.upto shaAddsSpec)

/-- 'hamperlaw07.ShaSums', WHERE WHAT IT READS IS OF BULK AT MOST 1048576: true; the input reads as it did. -/
def shaSumsUptoRow : OpenClaim := { program := "ytbafbpfpnfnikaa", sum := "1f6a3eb1ee1c835e84b66edf99d42041a5ee120b7c3633b30c0f53c73ed55f3c", func := "hamper/hamperlaw07.ShaSums", spec := "shaSums", inPlace := ["internal/abi.NoEscape", "internal/bytealg.MakeNoZero"], unfollowed := true, recurses := true, apart := false, narrowed := true }
def ShaSumsUptoSaid : Prop := shaSumsUptoRow.holds Try.pinned (OpenSpec.upto shaSumsSpec)

/-- 'hamperlaw07.ShaPieces', WHERE WHAT IT READS IS OF BULK AT MOST 1048576: true; the input reads as it did. -/
def shaPiecesUptoRow : OpenClaim := { program := "ytbafbpfpnfnikaa", sum := "1f6a3eb1ee1c835e84b66edf99d42041a5ee120b7c3633b30c0f53c73ed55f3c", func := "hamper/hamperlaw07.ShaPieces", spec := "shaPieces", inPlace := ["internal/abi.NoEscape", "internal/bytealg.MakeNoZero"], unfollowed := true, recurses := true, apart := false, narrowed := true }
def ShaPiecesUptoSaid : Prop := shaPiecesUptoRow.holds Try.pinned (OpenSpec.upto shaPiecesSpec)

/-- 'hamperlaw07.ShaHmac', WHERE WHAT IT READS IS OF BULK AT MOST 1048576: true; the input reads as it did. -/
def shaHmacUptoRow : OpenClaim := { program := "ytbafbpfpnfnikaa", sum := "1f6a3eb1ee1c835e84b66edf99d42041a5ee120b7c3633b30c0f53c73ed55f3c", func := "hamper/hamperlaw07.ShaHmac", spec := "shaHmac", inPlace := ["internal/abi.NoEscape", "internal/bytealg.MakeNoZero"], unfollowed := true, recurses := true, apart := false, narrowed := true }
def ShaHmacUptoSaid : Prop := shaHmacUptoRow.holds Try.pinned (OpenSpec.upto shaHmacSpec)

/-- 'hamperlaw07.ShaNames', WHERE WHAT IT READS IS OF BULK AT MOST 1048576: true; the input reads as it did. -/
def shaNamesUptoRow : OpenClaim := { program := "ytbafbpfpnfnikaa", sum := "1f6a3eb1ee1c835e84b66edf99d42041a5ee120b7c3633b30c0f53c73ed55f3c", func := "hamper/hamperlaw07.ShaNames", spec := "shaNames", inPlace := ["internal/abi.NoEscape", "internal/bytealg.MakeNoZero"], unfollowed := true, recurses := true, apart := false, narrowed := true }
def ShaNamesUptoSaid : Prop := shaNamesUptoRow.holds Try.pinned (OpenSpec.upto shaNamesSpec)

/-- 'hamperlaw07.ShaApart', WHERE WHAT IT READS IS OF BULK AT MOST 1048576: true; the input reads as it did. -/
def shaApartUptoRow : OpenClaim := { program := "ytbafbpfpnfnikaa", sum := "1f6a3eb1ee1c835e84b66edf99d42041a5ee120b7c3633b30c0f53c73ed55f3c", func := "hamper/hamperlaw07.ShaApart", spec := "shaApart", inPlace := ["internal/abi.NoEscape", "internal/bytealg.MakeNoZero"], unfollowed := true, recurses := true, apart := false, narrowed := true }
def ShaApartUptoSaid : Prop := shaApartUptoRow.holds Try.pinned (OpenSpec.upto shaApartSpec)

/-- 'hamperlaw08.DeriveTells', WHERE WHAT IT READS IS OF BULK AT MOST 1048576: true; the input reads as it did. -/
def deriveTellsUptoRow : OpenClaim := { program := "ytbafbpfpnfnikaa", sum := "1f6a3eb1ee1c835e84b66edf99d42041a5ee120b7c3633b30c0f53c73ed55f3c", func := "hamper/hamperlaw08.DeriveTells", spec := "deriveTells", inPlace := ["internal/abi.NoEscape", "internal/bytealg.MakeNoZero"], unfollowed := true, recurses := true, apart := false, narrowed := true }
def DeriveTellsUptoSaid : Prop := deriveTellsUptoRow.holds Try.pinned (OpenSpec.upto deriveTellsSpec)

/-- 'hamperlaw08.DeriveNames', WHERE WHAT IT READS IS OF BULK AT MOST 1048576: true; the input reads as it did. -/
def deriveNamesUptoRow : OpenClaim := { program := "ytbafbpfpnfnikaa", sum := "1f6a3eb1ee1c835e84b66edf99d42041a5ee120b7c3633b30c0f53c73ed55f3c", func := "hamper/hamperlaw08.DeriveNames", spec := "deriveNames", inPlace := ["internal/abi.NoEscape", "internal/bytealg.MakeNoZero"], unfollowed := true, recurses := true, apart := false, narrowed := true }
def DeriveNamesUptoSaid : Prop := deriveNamesUptoRow.holds Try.pinned (OpenSpec.upto deriveNamesSpec)

/-- 'hamperlaw08.DeriveRounds', WHERE WHAT IT READS IS OF BULK AT MOST 1048576: true; the input reads as it did. -/
def deriveRoundsUptoRow : OpenClaim := { program := "ytbafbpfpnfnikaa", sum := "1f6a3eb1ee1c835e84b66edf99d42041a5ee120b7c3633b30c0f53c73ed55f3c", func := "hamper/hamperlaw08.DeriveRounds", spec := "deriveRounds", inPlace := ["internal/abi.NoEscape", "internal/bytealg.MakeNoZero"], unfollowed := true, recurses := true, apart := false, narrowed := true }
def DeriveRoundsUptoSaid : Prop := deriveRoundsUptoRow.holds Try.pinned (OpenSpec.upto deriveRoundsSpec)

/-- 'hamperlaw08.DerivePadded', WHERE WHAT IT READS IS OF BULK AT MOST 1048576: true; the input reads as it did. -/
def derivePaddedUptoRow : OpenClaim := { program := "ytbafbpfpnfnikaa", sum := "1f6a3eb1ee1c835e84b66edf99d42041a5ee120b7c3633b30c0f53c73ed55f3c", func := "hamper/hamperlaw08.DerivePadded", spec := "derivePadded", inPlace := ["internal/abi.NoEscape", "internal/bytealg.MakeNoZero"], unfollowed := true, recurses := true, apart := false, narrowed := true }
def DerivePaddedUptoSaid : Prop := derivePaddedUptoRow.holds Try.pinned (OpenSpec.upto derivePaddedSpec)

/-- 'hamperlaw08.DeriveParts', WHERE WHAT IT READS IS OF BULK AT MOST 1048576: true; the input reads as it did. -/
def derivePartsUptoRow : OpenClaim := { program := "ytbafbpfpnfnikaa", sum := "1f6a3eb1ee1c835e84b66edf99d42041a5ee120b7c3633b30c0f53c73ed55f3c", func := "hamper/hamperlaw08.DeriveParts", spec := "deriveParts", inPlace := ["internal/abi.NoEscape", "internal/bytealg.MakeNoZero"], unfollowed := true, recurses := true, apart := false, narrowed := true }
def DerivePartsUptoSaid : Prop := derivePartsUptoRow.holds Try.pinned (OpenSpec.upto derivePartsSpec)

end Rows
end Go.Proofs.Ytbafbpfpnfnikaa
