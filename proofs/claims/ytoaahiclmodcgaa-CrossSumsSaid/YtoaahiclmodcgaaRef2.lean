/- The document's answers of layer 1: isByte, IsFour, FourBytes, BytesOf, words, SixFault. Conditions: as each theorem states them. -/
import Derived.Test.YtoaahiclmodcgaaRef1
import Derived.Test.YtoaahiclmodcgaaAppL
import Derived.Test.YtoaahiclmodcgaaAddr
import Derived.Test.YtoaahiclmodcgaaSix
import Derived.Deep.RegionLaw
namespace Go.Proofs.Ytoaahiclmodcgaa
open Go.RowKit
def w8 (n : Int) : Bool := decide (0 ≤ n) && decide (n ≤ 255)
theorem w8_yes {n : Int} (h : w8 n = true) : 0 ≤ n ∧ n ≤ 255 := by unfold w8 at h; simpa using h
theorem w8_no {n : Int} (h : w8 n = false) : ¬ (0 ≤ n ∧ n ≤ 255) := by unfold w8 at h; simp at h; omega
def w32 (n : Int) : Bool := decide (0 ≤ n) && decide (n ≤ 4294967295)
theorem w32_yes {n : Int} (h : w32 n = true) : 0 ≤ n ∧ n < 4294967296 := by unfold w32 at h; simp at h; omega
theorem w32_no {n : Int} (h : w32 n = false) : ¬ (0 ≤ n ∧ n < 4294967296) := by unfold w32 at h; simp at h; omega
theorem is_any (n : Int) (w : World) : Calls Try.prog 21 #[.int .i64 n] w fun e w' => e = .returned (.bool (w32 n)) ∧ w = w' := by
  cases h : w32 n
  · exact is_no n w (w32_no h)
  · obtain ⟨h0, h1⟩ := w32_yes h
    exact is_yes n w h0 h1

/-- The fault of an address, as the document tells it. -/
def sixE (s : Six) : Int := if words s.l = true then 0 else 1
end Go.Proofs.Ytoaahiclmodcgaa
