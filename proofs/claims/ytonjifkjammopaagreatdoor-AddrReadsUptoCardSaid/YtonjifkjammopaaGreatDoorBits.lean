/- Plain laws of the bits of an int (masks, joins), as the walk spells them. Conditions: as each lemma states them. -/
import Derived.Laws.BitsLemmas
import Derived.Laws.BitsAllLaws
namespace Go.Proofs.YtonjifkjammopaaGreatDoor

theorem two62 : (2 : Int) ^ 62 = 4611686018427387904 := by decide
theorem wraps_i64 (n : Int) (h0 : 0 ≤ n) (h1 : n < 2 ^ 62) : IntKind.i64.wrap n = n := by rw [two62] at h1; rw [IntKind.wrap_i64]; omega

theorem and_mask (i : Nat) (hi : i ≤ 62) (x m : Int) (hm : (2 : Int) ^ i - 1 = m) (h0 : 0 ≤ x) (h1 : x < 4611686018427387904) : bits .and .i64 x m = x % 2 ^ i := by
  rw [← hm]
  exact bits_mask .i64 62 (by decide) wraps_i64 i hi x h0 (by rw [two62]; exact h1)
theorem and65535 {x : Int} (h0 : 0 ≤ x) (h1 : x < 4611686018427387904) : bits .and .i64 x 65535 = x % 65536 := and_mask 16 (by decide) x _ (by decide) h0 h1
theorem and255 {x : Int} (h0 : 0 ≤ x) (h1 : x < 4611686018427387904) : bits .and .i64 x 255 = x % 256 := and_mask 8 (by decide) x _ (by decide) h0 h1
theorem and1 {x : Int} (h0 : 0 ≤ x) (h1 : x < 4611686018427387904) : bits .and .i64 x 1 = x % 2 := and_mask 1 (by decide) x _ (by decide) h0 h1

theorem or_join (i : Nat) (x y : Int) (h0 : 0 ≤ x) (hx : x % 2 ^ i = 0) (h1 : x < 4611686018427387904) (hy0 : 0 ≤ y) (hy : y < 2 ^ i) (hy1 : y < 4611686018427387904) : bits .or .i64 x y = x + y :=
  bits_join .i64 62 (by decide) wraps_i64 i x y h0 hx (by rw [two62]; exact h1) hy0 hy (by rw [two62]; exact hy1)
theorem or8 {x y : Int} (h0 : 0 ≤ x) (hx : x % 256 = 0) (h1 : x < 4611686018427387904) (hy0 : 0 ≤ y) (hy : y < 256) : bits .or .i64 x y = x + y := or_join 8 x y h0 hx h1 hy0 hy (by omega)
theorem or16 {x y : Int} (h0 : 0 ≤ x) (hx : x % 65536 = 0) (h1 : x < 4611686018427387904) (hy0 : 0 ≤ y) (hy : y < 65536) : bits .or .i64 x y = x + y := or_join 16 x y h0 hx h1 hy0 hy (by omega)
theorem or24 {x y : Int} (h0 : 0 ≤ x) (hx : x % 16777216 = 0) (h1 : x < 4611686018427387904) (hy0 : 0 ≤ y) (hy : y < 16777216) : bits .or .i64 x y = x + y := or_join 24 x y h0 hx h1 hy0 hy (by omega)

end Go.Proofs.YtonjifkjammopaaGreatDoor
