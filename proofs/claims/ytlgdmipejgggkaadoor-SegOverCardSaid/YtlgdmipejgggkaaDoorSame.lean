/- Errors by number, told alike: what the statements compare. Conditions: Handle, where an error is looked at. -/
import Derived.Test.YtlgdmipejgggkaaDoorTold
namespace Go.Proofs.YtlgdmipejgggkaaDoor
open Go.RowKit
/-- An error of a number, none of 0. -/
def erv (q : Int) : Value := if q = 0 then .nilIface else errv q
theorem erv_zero : erv 0 = .nilIface := rfl
theorem erv_ne {q : Int} (h : q ≠ 0) : erv q = errv q := by unfold erv; rw [if_neg h]
theorem err_same (q : Int) (w : World) (hg : Handle w) : Calls Tryd.prog 10 #[erv q, .int .i64 q] w fun e w' => e = .returned (.bool true) ∧ Below w.heap.size w w' := by
  by_cases h : q = 0
  · subst h
    rw [erv_zero]
    exact (error_nil 0 w).mono fun _ _ ⟨he, hw⟩ => ⟨he, by rw [← hw]; exact Below.refl _ _⟩
  · rw [erv_ne h]
    exact (error_err q q w hg).mono fun _ _ ⟨he, hb⟩ => ⟨by rw [he]; simp, hb⟩
end Go.Proofs.YtlgdmipejgggkaaDoor
