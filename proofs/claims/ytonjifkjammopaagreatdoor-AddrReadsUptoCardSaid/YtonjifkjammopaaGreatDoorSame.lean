/- Errors by number, told alike: what the statements compare. Conditions: Handle, where an error is looked at. -/
import Derived.Test.YtonjifkjammopaaGreatDoorTold
import Derived.Test.YtonjifkjammopaaGreatDoorErv
namespace Go.Proofs.YtonjifkjammopaaGreatDoor
open Go.RowKit
theorem err_same (q : Int) (w : World) (hg : Handle w) : Calls Tryz.prog 7 #[erv q, .int .i64 q] w fun e w' => e = .returned (.bool true) ∧ Below w.heap.size w w' := by
  by_cases h : q = 0
  · subst h
    rw [erv_zero]
    exact (error_nil 0 w).mono fun _ _ ⟨he, hw⟩ => ⟨he, by rw [← hw]; exact Below.refl _ _⟩
  · rw [erv_ne h]
    exact (error_err q q w hg).mono fun _ _ ⟨he, hb⟩ => ⟨by rw [he]; simp, hb⟩
end Go.Proofs.YtonjifkjammopaaGreatDoor
