/- The document's roots: sixteen of the primes. Conditions: none. -/
import Derived.Test.YtdegeodegjmddaaZRooA
namespace Go.Proofs.Ytdegeodegjmddaa.Roo
open Go.RowKit Go.Proofs.YtdegeodegjmddaaW.PrintWords Go.Proofs.Ytdegeodegjmddaa.PRoo
set_option maxRecDepth 100000
set_option linter.unusedVariables false
set_option linter.unusedSimpArgs false
theorem r0 : run 2 37 0 0 68719476736 = some (6074000999, 5411319704) := by decide +kernel
theorem r1 : run 3 37 0 0 68719476736 = some (7439101573, 6194414737) := by decide +kernel
theorem r2 : run 5 37 0 0 68719476736 = some (9603838834, 7344290767) := by decide +kernel
theorem r3 : run 7 37 0 0 68719476736 = some (11363415354, 8215976869) := by decide +kernel
theorem r4 : run 11 37 0 0 68719476736 = some (14244795007, 9551921755) := by decide +kernel
theorem r5 : run 13 37 0 0 68719476736 = some (15485724812, 10098905585) := by decide +kernel
theorem r6 : run 17 37 0 0 68719476736 = some (17708603819, 11043570340) := by decide +kernel
theorem r7 : run 19 37 0 0 68719476736 = some (18721328409, 11460697813) := by decide +kernel
theorem r8 : run 23 37 0 0 68719476736 = some (20597939549, 12214315672) := by decide +kernel
theorem r9 : run 29 37 0 0 68719476736 = some (23129106730, 13195500289) := by decide +kernel
theorem r10 : run 31 37 0 0 68719476736 = some (23913365850, 13492127166) := by decide +kernel
theorem r11 : run 37 37 0 0 68719476736 = some (26125266136, 14311783875) := by decide +kernel
theorem r12 : run 41 37 0 0 68719476736 = some (27501209191, 14809980276) := by decide +kernel
theorem r13 : run 43 37 0 0 68719476736 = some (28163984007, 15046980094) := by decide +kernel
theorem r14 : run 47 37 0 0 68719476736 = some (29444812301, 15499789991) := by decide +kernel
theorem r15 : run 53 37 0 0 68719476736 = some (31267833885, 16133124468) := by decide +kernel
end Go.Proofs.Ytdegeodegjmddaa.Roo
