/- package embed: Out. Conditions: as each theorem states them. -/
import Derived.Test.YtefdhlmljocnkaaDoorEmb3
import Derived.Test.YtefdhlmljocnkaaDoorRnd
namespace Go.Proofs.YtefdhlmljocnkaaDoor
open Go.RowKit Go.Shelf
attribute [local go_sem] Oper.semAt_some
namespace Pl
/-- The number of the bytes at some places. -/
def val (b : List Int) (pre : List (Fin 4 × Fin 16)) : Int := pre.foldl (fun v p => v * 256 + b.getD p.2.val 0) 0
def last (pre : List (Fin 4 × Fin 16)) : Int := pre.foldl (fun _ p => ((p.2.val : Nat) : Int)) 0
theorem val_snoc (b : List Int) (pre : List (Fin 4 × Fin 16)) (p : Fin 4 × Fin 16) : val b (pre ++ [p]) = val b pre * 256 + b.getD p.2.val 0 := by simp [val]
theorem last_snoc (pre : List (Fin 4 × Fin 16)) (p : Fin 4 × Fin 16) : last (pre ++ [p]) = ((p.2.val : Nat) : Int) := by simp [last]
theorem val_bd {b : List Int} (hb : IsB b) (pre : List (Fin 4 × Fin 16)) (h : pre.length < 4) : 0 ≤ val b pre ∧ val b pre < 16777216 := by
  have key : ∀ (l : List (Fin 4 × Fin 16)) (v : Int), 0 ≤ v → ∀ k : Nat, v < 256 ^ k → 0 ≤ l.foldl (fun v p => v * 256 + b.getD p.2.val 0) v ∧ l.foldl (fun v p => v * 256 + b.getD p.2.val 0) v < 256 ^ (k + l.length) := by
    intro l
    induction l with
    | nil => intro v h0 k hk; exact ⟨h0, hk⟩
    | cons p r ih =>
      intro v h0 k hk
      have hx := hb.getD p.2.val
      have h1 := ih (v * 256 + b.getD p.2.val 0) (by omega) (k + 1) (by rw [Int.pow_succ]; omega)
      rw [show k + 1 + r.length = k + (p :: r).length from by simp; omega] at h1
      exact h1
  have h0 := key pre 0 (by omega) 0 (by decide)
  refine ⟨h0.1, Int.lt_of_lt_of_le h0.2 ?_⟩
  have : pre.length = 0 ∨ pre.length = 1 ∨ pre.length = 2 ∨ pre.length = 3 := by omega
  rcases this with h | h | h | h <;> rw [h] <;> decide
/-- Is there nothing where nothing may be? -/
def tailC (b : List Int) (m : Nat) : Prop := b.getD 8 0 = 0 ∧ ∀ i : Nat, spot m 3 < i → i < 16 → b.getD i 0 = 0
instance (b : List Int) (m : Nat) : Decidable (tailC b m) := decidable_of_iff (b.getD 8 0 = 0 ∧ ∀ i : Nat, i < 16 → spot m 3 < i → b.getD i 0 = 0) ⟨fun h => ⟨h.1, fun i a b => h.2 i b a⟩, fun h => ⟨h.1, fun i a b => h.2 i b a⟩⟩
def outErr (s : Six) (n : Int) : Int := if okS s = true then (if longB n = true then (if tailC (two s.l) (n / 8).toNat then 0 else 2) else 1) else 1
def outVal (s : Six) (n : Int) : Int := if outErr s n = 0 then val (two s.l) (spots (n / 8).toNat) else 0
theorem spots_last (m : Nat) (h : m ≤ 12) : last (spots m) = ((spot m 3 : Nat) : Int) := by
  have : last (spots m) = (((sp m 3).2.val : Nat) : Int) := rfl
  rw [this, sp_snd h (by omega)]
end Pl
end Go.Proofs.YtefdhlmljocnkaaDoor
