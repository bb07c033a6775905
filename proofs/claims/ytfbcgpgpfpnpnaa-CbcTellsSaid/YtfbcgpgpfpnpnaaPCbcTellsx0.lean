/- The machine side of a law: printed by a program (wip/gprint.py over the kit's print), with the contracts of some functions proved by hand. Conditions: as each theorem names them. -/
import Derived.Test.YtfbcgpgpfpnpnaaProg
import Derived.Below
import Derived.Deep.Draws
import Derived.Deep.AppendLies
import Derived.Maps.AppendAt
import Derived.OwnWalk
import Derived.Laws.BytesArg
import Derived.Laws.MakeOwn
import Derived.Laws.OwnMore
import Derived.Deep.OwnRows
import Derived.Tactics
import Derived.Lib.ConvBytes
import Derived.Laws.Slices
import Derived.WalkKit
import Derived.KernelRfl
import Derived.RowKit3
import Derived.Deep.LoopGhost
import Derived.Deep.QuietTactic
import Derived.BigQuiet
import Derived.WideLaws
import Derived.Deep.DeepCutAuto
import Derived.Deep.CutBlock
import Derived.Deep.RegionHeld3
import Derived.Laws.Rows
import Derived.Lib.AppendStr
import Derived.ArgAppend
import Derived.Laws.IdiomCopy
import Derived.OrdersHeld
import Derived.Laws.BitsLemmas
import Derived.RowKit
import Derived.Test.YtfbcgpgpfpnpnaaRefQ3
import Derived.Test.YtfbcgpgpfpnpnaaWWords
import Derived.Test.YtfbcgpgpfpnpnaaWLast
import Derived.Test.YtfbcgpgpfpnpnaaWTab
import Derived.Test.YtfbcgpgpfpnpnaaWFour
import Derived.Test.YtfbcgpgpfpnpnaaWQPut
import Derived.Test.YtfbcgpgpfpnpnaaWApart
import Derived.Test.YtfbcgpgpfpnpnaaWArr
import Derived.Test.YtfbcgpgpfpnpnaaWZeros
import Derived.Test.YtfbcgpgpfpnpnaaWFoot
import Derived.Test.YtfbcgpgpfpnpnaaWKept
import Derived.Test.YtfbcgpgpfpnpnaaWShare
import Derived.Test.YtfbcgpgpfpnpnaaWN
import Derived.Test.YtfbcgpgpfpnpnaaWFootNe
import Derived.Test.YtfbcgpgpfpnpnaaWAt
import Derived.Test.YtfbcgpgpfpnpnaaWEqStruct
import Derived.Test.YtfbcgpgpfpnpnaaWRepsOne
import Derived.Test.YtfbcgpgpfpnpnaaWInv
import Derived.Test.YtfbcgpgpfpnpnaaWInvWords
import Derived.Test.YtfbcgpgpfpnpnaaWGuard
import Derived.Test.YtfbcgpgpfpnpnaaWNEv
import Derived.Test.YtfbcgpgpfpnpnaaWMore
namespace Go.Proofs.Ytfbcgpgpfpnpnaa.PCbcTells
open Go.RowKit Go.Proofs.YtfbcgpgpfpnpnaaW.PrintWords Go.Proofs.YtfbcgpgpfpnpnaaW.PrintLast Go.Proofs.YtfbcgpgpfpnpnaaW.PrintMore
attribute [local go_sem] max2_int min2_int max_two min_two max_three min_three max_four min_four   -- for this text's walks alone
set_option linter.unusedVariables false
set_option linter.unusedSimpArgs false



def errW : Option Int → Value
  | none => .nilIface
  | some c => .iface 0 (.int .i64 c)
theorem errW_none : errW none = .nilIface := rfl
theorem errW_some (c : Int) : errW (some c) = .iface 0 (.int .i64 c) := rfl

theorem info5 : (Try.prog.info? 5).map (fun i => (i.zero, i.size, i.bytes)) = some (some (.int .u8 0), 1, 1) := by kernel_rfl
-- the values' own types

end Go.Proofs.Ytfbcgpgpfpnpnaa.PCbcTells
