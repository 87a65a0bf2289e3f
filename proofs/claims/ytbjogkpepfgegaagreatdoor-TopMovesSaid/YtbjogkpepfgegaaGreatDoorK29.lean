/- Lemmas of this seat, bound together: RefH RefH6. Conditions: as each lemma states them. -/
import Derived.Test.YtbjogkpepfgegaaGreatDoorK26
import Derived.Test.YtbjogkpepfgegaaGreatDoorK28
import Derived.Test.YtbjogkpepfgegaaGreatDoorK17
namespace Go.Proofs.YtbjogkpepfgegaaGreatDoor
open Go.RowKit
/-- What SegOf gives. -/
def RDecGot (k : Int) (xs : List Int) (over : Int) (w : World) (e : Ending) (w' : World) : Prop :=
  ∃ a n c, e = .returned (.tuple #[(Pl.segV k xs over).v (.slice a n c), .int .i64 (Pl.segQ k xs over)]) ∧ Ints .u8 w' a n (Pl.segD k xs over) ∧ Ext w w'
theorem rdecGot_bad {k over q : Int} {xs : List Int} {w w' : World} (h : Pl.segQ k xs over = q) (hq : q ≠ 0) (he : Ext w w') : RDecGot k xs over w (.returned (.tuple #[.agg #[.int .i64 0, .int .i64 0, .int .i64 0, .int .i64 0, .int .i64 0, .int .i64 0, .int .i64 0, .slice none 0 0], .int .i64 q])) w' := by
  refine ⟨none, 0, 0, ?_, ?_, he⟩
  · unfold Pl.segV
    rw [h, if_neg hq]
    rfl
  · unfold Pl.segD
    rw [h, if_neg hq]
    exact Ints.nil
theorem w16_word {n : Int} (h : Pl.Word n) : w16 n = true := by unfold w16; have h0 := h.1; have h1 := h.2; simp [h0, h1]
theorem w16_not_word {n : Int} (h : ¬ Pl.Word n) : w16 n = false := by
  cases hw : w16 n
  · rfl
  · exact absurd (w16_yes hw) h
end Go.Proofs.YtbjogkpepfgegaaGreatDoor
namespace Go.Proofs.YtbjogkpepfgegaaGreatDoor
open Go.RowKit
end Go.Proofs.YtbjogkpepfgegaaGreatDoor
