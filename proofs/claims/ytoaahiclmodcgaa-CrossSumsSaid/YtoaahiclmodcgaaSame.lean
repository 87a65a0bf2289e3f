/- Errors by number, told alike: what the statements compare. Conditions: Handle, where an error is looked at. -/
import Derived.Test.YtoaahiclmodcgaaTold
import Derived.Test.YtoaahiclmodcgaaErv
namespace Go.Proofs.Ytoaahiclmodcgaa
open Go.RowKit
end Go.Proofs.Ytoaahiclmodcgaa
