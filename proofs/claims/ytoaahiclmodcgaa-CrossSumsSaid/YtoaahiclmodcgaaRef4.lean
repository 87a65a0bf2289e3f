/- The document's answers of layer 1: BytesOf, OverOf. Conditions: as each theorem states them. -/
import Derived.Test.YtoaahiclmodcgaaRef3
namespace Go.Proofs.Ytoaahiclmodcgaa
open Go.RowKit

/-- What stands over a segment, as bytes: may it be asked? -/
def okO (k n : Int) : Bool := w8 k && (decide (0 ≤ n) && decide (n ≤ 320))
theorem okO_yes {k n : Int} (h : okO k n = true) : (0 ≤ k ∧ k ≤ 255) ∧ (0 ≤ n ∧ n ≤ 320) := by
  unfold okO at h
  simp only [Bool.and_eq_true, decide_eq_true_eq] at h
  exact ⟨w8_yes h.1, h.2⟩
def bO (b : Bool) (v : Int) : Int := if b then v else 0
def eO (b : Bool) : Int := if b then 0 else 1

end Go.Proofs.Ytoaahiclmodcgaa
