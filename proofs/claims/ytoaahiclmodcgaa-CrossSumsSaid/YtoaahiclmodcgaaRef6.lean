/- The document's answers on packets of sixes: Fault6, Encoded6, word. Conditions: as each theorem states them. -/
import Derived.Test.YtoaahiclmodcgaaRef4
import Derived.Test.YtoaahiclmodcgaaIp6e
import Derived.Test.YtoaahiclmodcgaaOver6
import Derived.BigQuiet
namespace Go.Proofs.Ytoaahiclmodcgaa
open Go.RowKit

end Go.Proofs.Ytoaahiclmodcgaa
