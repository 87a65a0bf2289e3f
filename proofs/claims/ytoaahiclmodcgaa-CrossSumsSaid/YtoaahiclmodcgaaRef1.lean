/- The document's answers of layer 1: Word, Fold, SumOf. Conditions: as each theorem states them. -/
import Derived.Test.YtoaahiclmodcgaaSum
namespace Go.Proofs.Ytoaahiclmodcgaa
open Go.RowKit
/-- Is a number one of 16 bits? -/
def w16 (n : Int) : Bool := decide (0 ≤ n) && decide (n ≤ 65535)
theorem w16_yes {n : Int} (h : w16 n = true) : 0 ≤ n ∧ n ≤ 65535 := by unfold w16 at h; simpa using h
theorem w16_no {n : Int} (h : w16 n = false) : decide (0 ≤ n ∧ n ≤ 65535) = false := by
  unfold w16 at h
  by_cases h0 : 0 ≤ n <;> by_cases h1 : n ≤ 65535 <;> simp_all
end Go.Proofs.Ytoaahiclmodcgaa
