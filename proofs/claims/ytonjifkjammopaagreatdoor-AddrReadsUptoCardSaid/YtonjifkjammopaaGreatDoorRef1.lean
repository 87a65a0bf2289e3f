/- The document's answers of layer 1: Word, Fold, SumOf. Conditions: as each theorem states them. -/
import Derived.Test.YtonjifkjammopaaGreatDoorSum
namespace Go.Proofs.YtonjifkjammopaaGreatDoor
open Go.RowKit
/-- Is a number one of 16 bits? -/
def w16 (n : Int) : Bool := decide (0 ≤ n) && decide (n ≤ 65535)
theorem w16_yes {n : Int} (h : w16 n = true) : 0 ≤ n ∧ n ≤ 65535 := by unfold w16 at h; simpa using h
theorem w16_no {n : Int} (h : w16 n = false) : decide (0 ≤ n ∧ n ≤ 65535) = false := by
  unfold w16 at h
  by_cases h0 : 0 ≤ n <;> by_cases h1 : n ≤ 65535 <;> simp_all
theorem word_any (n : Int) (w : World) : Calls Tryz.prog 20 #[.int .i64 n] w fun e w' => e = .returned (.bool (w16 n)) ∧ w = w' := by
  by_cases h0 : 0 ≤ n
  · by_cases h1 : n ≤ 65535
    · have hw : w16 n = true := by unfold w16; simp [h0, h1]
      rw [hw]
      clear hw
      go_enter Tryz.func20, Tryz.ntmps20
      go_wp2
      go_ret
      exact ⟨rfl, rfl⟩
    · have hw : w16 n = false := by unfold w16; simp [h0, h1]
      rw [hw]
      clear hw
      go_enter Tryz.func20, Tryz.ntmps20
      go_wp2
      go_ret
      exact ⟨rfl, rfl⟩
  · have hw : w16 n = false := by unfold w16; simp [h0]
    rw [hw]
    clear hw
    go_enter Tryz.func20, Tryz.ntmps20
    go_wp2
    go_ret
    exact ⟨rfl, rfl⟩
end Go.Proofs.YtonjifkjammopaaGreatDoor
