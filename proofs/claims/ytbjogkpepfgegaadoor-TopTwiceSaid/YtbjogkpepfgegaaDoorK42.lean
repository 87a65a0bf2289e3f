/- The document's Crossed4, of any packet. Conditions: as each theorem states them. -/
import Derived.Test.YtbjogkpepfgegaaDoorK40
namespace Go.Proofs.YtbjogkpepfgegaaDoor
open Go.RowKit
end Go.Proofs.YtbjogkpepfgegaaDoor
