/- The document's roots: sixteen of the primes. Conditions: none. -/
import Derived.Test.YtdegeodegjmddaaZRooA
namespace Go.Proofs.Ytdegeodegjmddaa.Roo
open Go.RowKit Go.Proofs.YtdegeodegjmddaaW.PrintWords Go.Proofs.Ytdegeodegjmddaa.PRoo
set_option maxRecDepth 100000
set_option linter.unusedVariables false
set_option linter.unusedSimpArgs false
theorem r16 : run 59 37 0 0 68719476736 = some (32990269782, 16720292289) := by decide +kernel
theorem r17 : run 61 37 0 0 68719476736 = some (33544766931, 16907126662) := by decide +kernel
theorem r18 : run 67 37 0 0 68719476736 = some (35155822461, 17444216262) := by decide +kernel
theorem r19 : run 71 37 0 0 68719476736 = some (36190037706, 17784676812) := by decide +kernel
theorem r20 : run 73 37 0 0 68719476736 = some (36696216663, 17950125167) := by decide +kernel
theorem r21 : run 79 37 0 0 68719476736 = some (38174504342, 18429019306) := by decide +kernel
theorem r22 : run 83 37 0 0 68719476736 = some (39129014274, 18734950876) := by decide +kernel
theorem r23 : run 89 37 0 0 68719476736 = some (40518640433, 19175934170) := by decide +kernel
theorem r24 : run 97 37 0 0 68719476736 = some (42300522161, 19734090066) := by decide +kernel
theorem r25 : run 101 37 0 0 68719476736 = some (43163887121, 20001703533) := by decide +kernel
theorem r26 : run 103 37 0 0 68719476736 = some (43589157362, 20132865992) := by decide +kernel
theorem r27 : run 107 37 0 0 68719476736 = some (44427487166, 20390182855) := by decide +kernel
theorem r28 : run 109 37 0 0 68719476736 = some (44840775015, 20516441075) := by decide +kernel
theorem r29 : run 113 37 0 0 68719476736 = some (45656128617, 20764397895) := by decide +kernel
theorem r30 : run 127 37 0 0 68719476736 = some (48401823285, 21588763473) := by decide +kernel
theorem r31 : run 131 37 0 0 68719476736 = some (49158147581, 21813078375) := by decide +kernel
end Go.Proofs.Ytdegeodegjmddaa.Roo
