/- The document's SixAt: an address of sixteen bytes. Conditions: as each theorem states them. -/
import Derived.Test.YtefdhlmljocnkaaDoorOf
namespace Go.Proofs.YtefdhlmljocnkaaDoor
open Go.RowKit
theorem sixAt_take (l : List Int) : sixAt (l.take 16) = sixAt l := by
  unfold sixAt Pl.at2
  simp [List.getD]
end Go.Proofs.YtefdhlmljocnkaaDoor
