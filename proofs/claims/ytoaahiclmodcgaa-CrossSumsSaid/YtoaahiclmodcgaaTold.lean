/- plain.Told and gangplanksame.Error of nil and of an Errno. Conditions: the variable errors.errorType holds the handle that the row lists (Handle). -/
import Derived.Test.YtoaahiclmodcgaaErr
import Derived.Test.YtoaahiclmodcgaaSum
namespace Go.Proofs.Ytoaahiclmodcgaa
open Go.RowKit

end Go.Proofs.Ytoaahiclmodcgaa
