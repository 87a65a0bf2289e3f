/- The contract of pick.Score. Conditions: as each theorem states them. -/
import Derived.Test.YtefdhlmljocnkaaDoorFlow
import Derived.Test.YtefdhlmljocnkaaDoorMix
namespace Go.Proofs.YtefdhlmljocnkaaDoor
open Go.RowKit
namespace Pl
/-- The score of a server for a flow. -/
def score (seed : Int) (f : Flow) (id : Int) : Int := mix (mix (mix (mix (mix seed [f.kind]) f.client.l) [f.port]) f.dst.l) [f.door, id] / 256
end Pl
theorem ints_sc {n : Nat} (w : World) (cs : Array Value) (t : TypeId) (k : IntKind) (xs : List Int) (m : Nat) (h : cs.toList = xs.map (Value.int k)) (hm : xs.length = m) (hn : w.heap.size = n) : Ints k (w.alloc (.cells cs t)) (some ⟨n, 0, none⟩) m xs := by
  subst hn hm
  exact ints_new w cs t (0, 0) k xs h

end Go.Proofs.YtefdhlmljocnkaaDoor
