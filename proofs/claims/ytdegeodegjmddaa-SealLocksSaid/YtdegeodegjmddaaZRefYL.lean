/- What the laws of locked streams ask of the document's functions: gathered. -/
import Derived.Test.YtdegeodegjmddaaZRefY1
import Derived.Test.YtdegeodegjmddaaZRefQL
import Derived.Test.YtdegeodegjmddaaZSealQ
