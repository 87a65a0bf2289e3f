/- The document's answers of layer 1: words, BytesOf. Conditions: as each theorem states them. -/
import Derived.Test.YtonjifkjammopaaGreatDoorRef2
import Derived.Deep.DeepCutAuto
import Derived.Deep.DeepMust
namespace Go.Proofs.YtonjifkjammopaaGreatDoor
open Go.RowKit

end Go.Proofs.YtonjifkjammopaaGreatDoor
