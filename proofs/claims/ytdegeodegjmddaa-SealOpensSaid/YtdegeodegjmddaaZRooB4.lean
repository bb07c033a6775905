/- The document's roots: sixteen of the primes. Conditions: none. -/
import Derived.Test.YtdegeodegjmddaaZRooA
namespace Go.Proofs.Ytdegeodegjmddaa.Roo
open Go.RowKit Go.Proofs.YtdegeodegjmddaaW.PrintWords Go.Proofs.Ytdegeodegjmddaa.PRoo
set_option maxRecDepth 100000
set_option linter.unusedVariables false
set_option linter.unusedSimpArgs false
theorem r48 : run 227 37 0 0 68719476736 = some (64710207113, 26200031510) := by decide +kernel
theorem r49 : run 229 37 0 0 68719476736 = some (64994648955, 26276752392) := by decide +kernel
theorem r50 : run 233 37 0 0 68719476736 = some (65559830454, 26428864332) := by decide +kernel
theorem r51 : run 239 37 0 0 68719476736 = some (66398583069, 26653801653) := by decide +kernel
theorem r52 : run 241 37 0 0 68719476736 = some (66675822617, 26727943347) := by decide +kernel
theorem r53 : run 251 37 0 0 68719476736 = some (68045078899, 27092625994) := by decide +kernel
theorem r54 : run 257 37 0 0 68719476736 = some (68853563647, 27306805839) := by decide +kernel
theorem r55 : run 263 37 0 0 68719476736 = some (69652664639, 27517677555) := by decide +kernel
theorem r56 : run 269 37 0 0 68719476736 = some (70442701224, 27725365998) := by decide +kernel
theorem r57 : run 271 37 0 0 68719476736 = some (70704085058, 27793908591) := by decide +kernel
theorem r58 : run 277 37 0 0 68719476736 = some (71482502113, 27997534228) := by decide +kernel
theorem r59 : run 281 37 0 0 68719476736 = some (71996771349, 28131656200) := by decide +kernel
theorem r60 : run 283 37 0 0 68719476736 = some (72252533331, 28198240250) := by decide +kernel
theorem r61 : run 293 37 0 0 68719476736 = some (73517997888, 28526537963) := by decide +kernel
theorem r62 : run 307 37 0 0 68719476736 = some (75253906414, 28973835255) := by decide +kernel
theorem r63 : run 311 37 0 0 68719476736 = some (75742573278, 29099129074) := by decide +kernel
end Go.Proofs.Ytdegeodegjmddaa.Roo
