/- package embed: the places of a four's bytes, one by one. Conditions: as each theorem states them. -/
import Derived.Test.YtefdhlmljocnkaaDoorEmb1
import Derived.RangeFuncNested
import Derived.RangeFuncBound
import Derived.RangeFuncCalls
import Derived.RangeFuncLeaves
import Derived.RangeFuncFrom
import Derived.Shelf.Abstract
import Derived.Shelf.RegionOpen
import Derived.WalkKit
import Derived.OwnWalkIn
import Derived.TacticsInMore
import Derived.LoopNIn
import Derived.LoopIn
namespace Go.Proofs.YtefdhlmljocnkaaDoor
open Go.RowKit Go.Shelf
attribute [local go_sem] Oper.semAt_some
namespace Pl
/-- Where a four's byte i lies behind m bytes. -/
def spot (m i : Nat) : Nat := if 8 ≤ m + i ∧ m ≤ 8 then m + i + 1 else m + i
def sp (m k : Nat) : Fin 4 × Fin 16 := (Fin.ofNat 4 k, Fin.ofNat 16 (spot m k))
def spots (m : Nat) : List (Fin 4 × Fin 16) := [sp m 0, sp m 1, sp m 2, sp m 3]
def cur (m k : Nat) : Nat := if 9 ≤ m + k ∧ m ≤ 8 then m + k + 1 else m + k
theorem cur_zero (m : Nat) : cur m 0 = m := by unfold cur; split <;> omega
theorem cur_le {m k : Nat} (h : m ≤ 12) (hk : k ≤ 4) : cur m k ≤ 17 := by unfold cur; split <;> omega
theorem spot_le {m k : Nat} (h : m ≤ 12) (hk : k ≤ 3) : spot m k ≤ 15 := by unfold spot; split <;> omega
theorem cur_spot (m k : Nat) : spot m k = if cur m k = 8 then 9 else cur m k := by
  unfold spot cur
  split <;> split <;> split <;> omega
theorem cur_next (m k : Nat) : cur m (k + 1) = spot m k + 1 := by
  unfold spot cur
  split <;> split <;> omega
theorem sp_fst {m k : Nat} (h : k < 4) : (sp m k).1.val = k := Nat.mod_eq_of_lt h
theorem sp_snd {m k : Nat} (h : m ≤ 12) (hk : k ≤ 3) : (sp m k).2.val = spot m k := Nat.mod_eq_of_lt (by have := spot_le h hk; omega)
theorem spots_snoc {m k : Nat} (h : k < 4) : (spots m).take k ++ [sp m k] = (spots m).take (k + 1) := by
  have h : k = 0 ∨ k = 1 ∨ k = 2 ∨ k = 3 := by omega
  rcases h with rfl | rfl | rfl | rfl <;> rfl
end Pl
abbrev spotv (p : Fin 4 × Fin 16) : Array Value := #[.int .i64 ((p.1.val : Nat) : Int), .int .i64 ((p.2.val : Nat) : Int)]
end Go.Proofs.YtefdhlmljocnkaaDoor
