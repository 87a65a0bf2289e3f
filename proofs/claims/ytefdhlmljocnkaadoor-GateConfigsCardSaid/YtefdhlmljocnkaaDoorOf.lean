/- The contract of addr.Of: sixteen bytes as an address. Conditions: as each theorem states them. -/
import Derived.Test.YtefdhlmljocnkaaDoorFlow
import Derived.BigRegion
namespace Go.Proofs.YtefdhlmljocnkaaDoor
open Go.RowKit
namespace Pl
def at2 (l : List Int) (i : Nat) : Int := l.getD i 0 * 256 + l.getD (i + 1) 0
end Pl
/-- The address of sixteen bytes. -/
def sixAt (l : List Int) : Six := ⟨Pl.at2 l 0, Pl.at2 l 2, Pl.at2 l 4, Pl.at2 l 6, Pl.at2 l 8, Pl.at2 l 10, Pl.at2 l 12, Pl.at2 l 14⟩

end Go.Proofs.YtefdhlmljocnkaaDoor
