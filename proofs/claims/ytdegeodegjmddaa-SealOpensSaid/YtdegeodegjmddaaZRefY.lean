/- What the laws of locked streams ask of the document's functions: gathered. -/
import Derived.Test.YtdegeodegjmddaaZRefY1
import Derived.Test.YtdegeodegjmddaaZRefQ3
import Derived.Test.YtdegeodegjmddaaZSealQ
