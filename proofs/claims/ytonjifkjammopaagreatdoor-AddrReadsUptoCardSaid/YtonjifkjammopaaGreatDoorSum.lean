/- The contracts of package sum: fold, Raw, Of, number, Add, Not, Swap. Conditions: as each theorem states them. -/
import Derived.Test.YtonjifkjammopaaGreatDoorBase
import Derived.Test.YtonjifkjammopaaGreatDoorBits
namespace Go.Proofs.YtonjifkjammopaaGreatDoor
open Go.RowKit

/-- Are all of them numbers of 16 bits? -/
def words : List Int → Bool
  | [] => true
  | x :: r => decide (0 ≤ x ∧ x ≤ 65535) && words r
theorem words_snoc (l : List Int) (x : Int) : words (l ++ [x]) = (words l && decide (0 ≤ x ∧ x ≤ 65535)) := by
  induction l with
  | nil => simp [words]
  | cons y r ih => simp [words, ih, Bool.and_assoc]
theorem words_append (l m : List Int) : words (l ++ m) = (words l && words m) := by
  induction l with
  | nil => simp [words]
  | cons y r ih => simp [words, ih, Bool.and_assoc]
theorem words_bad (l : List Int) (k : Nat) (hk : k < l.length) (h : ¬ (0 ≤ l.getD k 0 ∧ l.getD k 0 ≤ 65535)) : words l = false := by
  have e := List.take_append_drop (k + 1) l
  rw [take_snoc l k hk] at e
  rw [← e, words_append, words_snoc, decide_eq_false h]
  simp

/-- An error of the program's, by its number. -/
def errv (n : Int) : Value := .iface 24 (.int .i64 n)

theorem ints_new (w : World) (cs : Array Value) (t : TypeId) (m : Nat × Nat) (k : IntKind) (xs : List Int) (h : cs.toList = xs.map (Value.int k)) : Ints k (w.alloc (.cells cs t m)) (some ⟨w.heap.size, 0, none⟩) xs.length xs := by
  refine ⟨rfl, .inr ⟨_, _, rfl, fun i hi => ?_⟩⟩
  rw [World.cell?_alloc_mark]
  simp only [Nat.zero_add]
  rw [← Array.getElem?_toList, h, List.getElem?_map, List.getElem?_eq_getElem hi]
  simp [List.getD, hi]

/-- What Swap gives of three numbers. -/
def swapv (a b c : Int) : Int := 65535 - Pl.fold (Pl.fold (65535 - a + 65535 - b) + c)
end Go.Proofs.YtonjifkjammopaaGreatDoor
