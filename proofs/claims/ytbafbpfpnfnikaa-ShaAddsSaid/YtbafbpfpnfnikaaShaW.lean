/- The examples of law 07, by the kernel's own reckoning. Conditions: none. -/
import Derived.Test.YtbafbpfpnfnikaaPShaHmacx1
import Derived.Test.YtbafbpfpnfnikaaSumQ
namespace Go.Proofs.Ytbafbpfpnfnikaa.Given
open Go.RowKit Go.Proofs.Ytbafbpfpnfnikaa.PShaHmac
set_option maxRecDepth 100000
theorem works_true : hamperlaw07_works.f 70 = some true := by decide +kernel
theorem works_any (w : World) : Calls Try.prog 22 #[] w fun e w' => e = .returned (.bool true) ∧ Below w.heap.size w w' :=
  hamperlaw07_works.calls 70 true w works_true
end Go.Proofs.Ytbafbpfpnfnikaa.Given
