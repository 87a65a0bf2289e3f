/- The or of two bytes. Conditions: as each lemma states them. -/
import Derived.Test.YtoaahiclmodcgaaBits
namespace Go.Proofs.Ytoaahiclmodcgaa
theorem or_bytes : ∀ x : Fin 256, ∀ y : Fin 256, (0 ≤ bits .or .u8 (x.val : Int) (y.val : Int) ∧ bits .or .u8 (x.val : Int) (y.val : Int) ≤ 255) ∧ (bits .or .u8 (x.val : Int) (y.val : Int) = 0 ↔ (x.val = 0 ∧ y.val = 0)) := by decide +kernel
theorem or_byte {x y : Int} (hx : 0 ≤ x ∧ x ≤ 255) (hy : 0 ≤ y ∧ y ≤ 255) : (0 ≤ bits .or .u8 x y ∧ bits .or .u8 x y ≤ 255) ∧ (bits .or .u8 x y = 0 ↔ (x = 0 ∧ y = 0)) := by
  have h := or_bytes ⟨x.toNat, by omega⟩ ⟨y.toNat, by omega⟩
  simp only [Int.toNat_of_nonneg hx.1, Int.toNat_of_nonneg hy.1] at h
  refine ⟨h.1, h.2.trans ?_⟩
  omega
theorem or3 {x y z : Int} (hx : 0 ≤ x ∧ x ≤ 255) (hy : 0 ≤ y ∧ y ≤ 255) (hz : 0 ≤ z ∧ z ≤ 255) : bits .or .u8 (bits .or .u8 x y) z = 0 ↔ (x = 0 ∧ y = 0 ∧ z = 0) := by
  rw [(or_byte (or_byte hx hy).1 hz).2, (or_byte hx hy).2, and_assoc]
end Go.Proofs.Ytoaahiclmodcgaa
