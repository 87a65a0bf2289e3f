/- package embed: Into and Out as functions of their arguments; what goes in comes out. Conditions: as each theorem states them. -/
import Derived.Test.YtefdhlmljocnkaaDoorEmb4
import Derived.Test.YtefdhlmljocnkaaDoorIn
namespace Go.Proofs.YtefdhlmljocnkaaDoor
open Go.RowKit Go.Shelf
namespace Pl
def intoErr (s : Six) (n four : Int) : Int := if pfxErr s n = 0 then (if 0 ≤ four ∧ four < 4294967296 then 0 else 1) else pfxErr s n
def into (s : Six) (n f : Int) : Six := if intoErr s n f = 0 then sixAt (put (two s.l) (four f) (spots (n / 8).toNat)) else ⟨0, 0, 0, 0, 0, 0, 0, 0⟩
theorem pfx_zero {s : Six} {n : Int} (h : pfxErr s n = 0) : okS s = true ∧ longB n = true ∧ clean (two s.l) n := by
  unfold pfxErr at h
  by_cases h1 : okS s = true
  · rw [if_pos h1] at h
    by_cases h2 : longB n = true
    · rw [if_pos h2] at h
      by_cases h3 : clean (two s.l) n
      · exact ⟨h1, h2, h3⟩
      · rw [if_neg h3] at h; exact absurd h (by decide)
    · rw [if_neg h2] at h; exact absurd h (by decide)
  · rw [if_neg h1] at h; exact absurd h (by decide)
theorem longB_nat {n : Int} (h : longB n = true) : ∃ m : Nat, 4 ≤ m ∧ m ≤ 12 ∧ n = 8 * (m : Int) ∧ (n / 8).toNat = m := by
  have hn := longB_yes h
  exact ⟨(n / 8).toNat, by omega, by omega, by omega, rfl⟩
end Pl
end Go.Proofs.YtefdhlmljocnkaaDoor
