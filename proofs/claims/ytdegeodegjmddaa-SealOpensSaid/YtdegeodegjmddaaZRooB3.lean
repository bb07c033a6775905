/- The document's roots: sixteen of the primes. Conditions: none. -/
import Derived.Test.YtdegeodegjmddaaZRooA
namespace Go.Proofs.Ytdegeodegjmddaa.Roo
open Go.RowKit Go.Proofs.YtdegeodegjmddaaW.PrintWords Go.Proofs.Ytdegeodegjmddaa.PRoo
set_option maxRecDepth 100000
set_option linter.unusedVariables false
set_option linter.unusedSimpArgs false
theorem r32 : run 137 37 0 0 68719476736 = some (50271303326, 22141143685) := by decide +kernel
theorem r33 : run 139 37 0 0 68719476736 = some (50636917621, 22248366392) := by decide +kernel
theorem r34 : run 149 37 0 0 68719476736 = some (52426757166, 22769593852) := by decide +kernel
theorem r35 : run 151 37 0 0 68719476736 = some (52777441725, 22871018771) := by decide +kernel
theorem r36 : run 157 37 0 0 68719476736 = some (53815785970, 23170020180) := by decide +kernel
theorem r37 : run 163 37 0 0 68719476736 = some (54834471676, 23461497531) := by decide +kernel
theorem r38 : run 167 37 0 0 68719476736 = some (55503209459, 23651862830) := by decide +kernel
theorem r39 : run 173 37 0 0 68719476736 = some (56491474797, 23931792517) := by decide +kernel
theorem r40 : run 179 37 0 0 68719476736 = some (57462746098, 24205322401) := by decide +kernel
theorem r41 : run 181 37 0 0 68719476736 = some (57782875294, 24295138891) := by decide +kernel
theorem r42 : run 191 37 0 0 68719476736 = some (59357628979, 24734567280) := by decide +kernel
theorem r43 : run 193 37 0 0 68719476736 = some (59667592596, 24820601251) := by decide +kernel
theorem r44 : run 197 37 0 0 68719476736 = some (60282738678, 24990902297) := by decide +kernel
theorem r45 : run 199 37 0 0 68719476736 = some (60587969685, 25075189284) := by decide +kernel
theorem r46 : run 211 37 0 0 68719476736 = some (62388003650, 25569408389) := by decide +kernel
theorem r47 : run 223 37 0 0 68719476736 = some (64137539151, 26045227120) := by decide +kernel
end Go.Proofs.Ytdegeodegjmddaa.Roo
