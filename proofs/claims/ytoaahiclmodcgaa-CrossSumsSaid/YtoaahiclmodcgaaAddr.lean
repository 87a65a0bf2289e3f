/- The contracts of package addr on fours and on bytes. Conditions: as each theorem states them. -/
import Derived.Test.YtoaahiclmodcgaaOwn
import Derived.Test.YtoaahiclmodcgaaBits
namespace Go.Proofs.Ytoaahiclmodcgaa
open Go.RowKit

namespace Pl
/-- Is a number a four? -/
def isFour (a : Int) : Bool := decide (0 ≤ a ∧ a < 4294967296)
/-- The bytes of a four. -/
def four (a : Int) : List Int := [a / 16777216, a / 65536 % 256, a / 256 % 256, a % 256]
theorem four_isB {a : Int} (h0 : 0 ≤ a) (h1 : a < 4294967296) : IsB (four a) := by
  unfold four
  exact .cons (by omega) (by omega) (.cons (by omega) (by omega) (.cons (by omega) (by omega) (.cons (by omega) (by omega) .nil)))
end Pl

theorem is_yes (a : Int) (w : World) (h0 : 0 ≤ a) (h1 : a < 4294967296) :
    Calls Try.prog 21 #[.int .i64 a] w fun e w' => e = .returned (.bool true) ∧ w = w' := by
  go_enter Try.func21, Try.ntmps21
  go_wp2
  go_ret
  exact ⟨rfl, rfl⟩
theorem is_no (a : Int) (w : World) (h : ¬ (0 ≤ a ∧ a < 4294967296)) :
    Calls Try.prog 21 #[.int .i64 a] w fun e w' => e = .returned (.bool false) ∧ w = w' := by
  by_cases h0 : 0 ≤ a
  · have h1 : ¬ a < 4294967296 := fun h1 => h ⟨h0, h1⟩
    clear h
    go_enter Try.func21, Try.ntmps21
    go_wp2
    go_ret
    exact ⟨rfl, rfl⟩
  · clear h
    go_enter Try.func21, Try.ntmps21
    go_wp2
    go_ret
    exact ⟨rfl, rfl⟩

theorem raw4_any (a : Int) (w : World) (h0 : 0 ≤ a) (h1 : a < 4294967296) :
    Calls Try.prog 23 #[.int .i64 a] w fun e w' => ∃ v, e = .returned v ∧ Own w' w.heap.size v (Pl.four a) ∧ Below w.heap.size w w' := by
  have e1 : IntKind.u8.wrap (a / 16777216) = a / 16777216 := IntWalk.u8_in _ (by omega)
  have e2 : IntKind.u8.wrap (a / 65536) = a / 65536 % 256 := by rw [IntKind.wrap_u8]
  have e3 : IntKind.u8.wrap (a / 256) = a / 256 % 256 := by rw [IntKind.wrap_u8]
  have e4 : IntKind.u8.wrap a = a % 256 := by rw [IntKind.wrap_u8]
  go_enter Try.func23, Try.ntmps23
  go_wp2
  go_ret
  exact ⟨_, rfl, Own.built w _ _ _ 4 rfl rfl (Nat.le_refl _) (by simp [Pl.four]), by go_grown⟩
end Go.Proofs.Ytoaahiclmodcgaa
