/- The contracts of package ip4. Conditions: as each theorem states them. -/
import Derived.Test.YtoaahiclmodcgaaStr
import Derived.Test.YtoaahiclmodcgaaAddr
import Derived.Test.YtoaahiclmodcgaaSum
import Derived.Deep.RegionHeld3
namespace Go.Proofs.Ytoaahiclmodcgaa
open Go.RowKit

/-- A packet as a value. -/
def pk4 (s d t k i : Int) (b : Value) : Value := .agg #[.int .i64 s, .int .i64 d, .int .i64 t, .int .i64 k, .int .i64 i, b]
namespace Pl
/-- Are a packet's numbers such that may be? -/
def Ok4 (s d t k i : Int) : Prop := (0 ≤ s ∧ s < 4294967296) ∧ (0 ≤ d ∧ d < 4294967296) ∧ (0 ≤ t ∧ t ≤ 255) ∧ (0 ≤ k ∧ k ≤ 255) ∧ (0 ≤ i ∧ i ≤ 65535)
end Pl

end Go.Proofs.Ytoaahiclmodcgaa
