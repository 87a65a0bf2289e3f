/- The contracts of package addr on fours and on bytes. Conditions: as each theorem states them. -/
import Derived.Test.YtonjifkjammopaaGreatDoorOwn
import Derived.Test.YtonjifkjammopaaGreatDoorBits
namespace Go.Proofs.YtonjifkjammopaaGreatDoor
open Go.RowKit

namespace Pl
/-- Is a number a four? -/
def isFour (a : Int) : Bool := decide (0 ≤ a ∧ a < 4294967296)
/-- The bytes of a four. -/
def four (a : Int) : List Int := [a / 16777216, a / 65536 % 256, a / 256 % 256, a % 256]
theorem four_isB {a : Int} (h0 : 0 ≤ a) (h1 : a < 4294967296) : IsB (four a) := by
  unfold four
  exact .cons (by omega) (by omega) (.cons (by omega) (by omega) (.cons (by omega) (by omega) (.cons (by omega) (by omega) .nil)))
end Pl

theorem is_yes (a : Int) (w : World) (h0 : 0 ≤ a) (h1 : a < 4294967296) :
    Calls Tryz.prog 30 #[.int .i64 a] w fun e w' => e = .returned (.bool true) ∧ w = w' := by
  go_enter Tryz.func30, Tryz.ntmps30
  go_wp2
  go_ret
  exact ⟨rfl, rfl⟩
theorem is_no (a : Int) (w : World) (h : ¬ (0 ≤ a ∧ a < 4294967296)) :
    Calls Tryz.prog 30 #[.int .i64 a] w fun e w' => e = .returned (.bool false) ∧ w = w' := by
  by_cases h0 : 0 ≤ a
  · have h1 : ¬ a < 4294967296 := fun h1 => h ⟨h0, h1⟩
    clear h
    go_enter Tryz.func30, Tryz.ntmps30
    go_wp2
    go_ret
    exact ⟨rfl, rfl⟩
  · clear h
    go_enter Tryz.func30, Tryz.ntmps30
    go_wp2
    go_ret
    exact ⟨rfl, rfl⟩

end Go.Proofs.YtonjifkjammopaaGreatDoor
