/- A bit of a byte turned: the byte is a power of two more or less. Conditions: as each lemma states them. -/
import Derived.Test.YtlakolkcmbfljaaBase
namespace Go.Proofs.Ytlakolkcmbfljaa
open Go.RowKit

theorem Ints.head {k : IntKind} {w : World} {b off n : Nat} {xs : List Int} (h : Ints k w (some ⟨b, off, none⟩) n xs) (m : Nat) (hm : m ≤ n) : Ints k w (some ⟨b, off, none⟩) m (xs.take m) := by
  have := h.sub 0 m (Nat.zero_le _) hm
  simpa using this

def Turned (x y p : Int) : Prop := (y = x + p ∨ y = x - p) ∧ 0 ≤ y ∧ y ≤ 255
instance (x y p : Int) : Decidable (Turned x y p) := by unfold Turned; infer_instance
theorem turn_all : ∀ x : Fin 256, ∀ m : Fin 8, Turned (x.val : Int) (bits .xor .u8 (x.val : Int) (2 ^ m.val)) (2 ^ m.val) := by decide +kernel
theorem turn (x : Int) (h0 : 0 ≤ x) (h1 : x ≤ 255) (m : Nat) (hm : m < 8) : Turned x (bits .xor .u8 x (2 ^ m)) (2 ^ m) := by
  have h := turn_all ⟨x.toNat, by omega⟩ ⟨m, hm⟩
  simp only [Int.toNat_of_nonneg h0] at h
  exact h
end Go.Proofs.Ytlakolkcmbfljaa
