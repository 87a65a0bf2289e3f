/- Errors by number. Conditions: as each lemma states them. -/
import Derived.Test.YtonjifkjammopaaGreatDoorSum
namespace Go.Proofs.YtonjifkjammopaaGreatDoor
open Go.RowKit
/-- An error of a number, none of 0. -/
def erv (q : Int) : Value := if q = 0 then .nilIface else errv q
theorem erv_zero : erv 0 = .nilIface := rfl
theorem erv_ne {q : Int} (h : q ≠ 0) : erv q = errv q := by unfold erv; rw [if_neg h]
end Go.Proofs.YtonjifkjammopaaGreatDoor
