/- Words on slices of numbers in memory, used by the walks of this seat. Conditions: as each lemma states them. -/
import Derived.WalkKit
import Derived.WalkSmall
import Derived.Below
import Derived.Lib.Hide
import Derived.BigQuiet
import Derived.Deep.QuietTactic
import Derived.KernelRfl
import Derived.Handy
import Derived.Test.YtonjifkjammopaaGreatDoorPlain
import Derived.Test.YtonjifkjammopaaGreatDoorProg
namespace Go.Proofs.YtonjifkjammopaaGreatDoor
open Go.RowKit

/-- A slice's value shows the numbers xs, each of kind k. -/
def Ints (k : IntKind) (w : World) (a : Option Addr) (n : Nat) (xs : List Int) : Prop :=
  xs.length = n ∧ (n = 0 ∨ ∃ b off, a = some ⟨b, off, none⟩ ∧ ∀ i, i < n → w.cell? ⟨b, off + i, none⟩ = some (.int k (xs.getD i 0)))

theorem Ints.len {k : IntKind} {w : World} {a : Option Addr} {n : Nat} {xs : List Int} (h : Ints k w a n xs) : xs.length = n := h.1

theorem Ints.at {k : IntKind} {w : World} {a : Option Addr} {n : Nat} {xs : List Int} (h : Ints k w a n xs) (hn : 0 < n) :
    ∃ b off, a = some ⟨b, off, none⟩ ∧ b < w.heap.size ∧ ∀ i, i < n → w.cell? ⟨b, off + i, none⟩ = some (.int k (xs.getD i 0)) := by
  rcases h.2 with h0 | ⟨b, off, rfl, hc⟩
  · omega
  · exact ⟨b, off, rfl, World.block_lt_of_cell? w _ (hc 0 hn), hc⟩

theorem Ints.nil {k : IntKind} {w : World} {a : Option Addr} : Ints k w a 0 [] := ⟨rfl, .inl rfl⟩

theorem Ints.below {k : IntKind} {w w' : World} {a : Option Addr} {n : Nat} {xs : List Int} (h : Ints k w a n xs) (hb : Below w.heap.size w w') : Ints k w' a n xs := by
  refine ⟨h.1, ?_⟩
  rcases h.2 with h0 | ⟨b, off, rfl, hc⟩
  · exact .inl h0
  · refine .inr ⟨b, off, rfl, fun i hi => ?_⟩
    have := hc i hi
    rw [hb.cell (World.block_lt_of_cell? w _ this)]
    exact this

theorem Ints.drew {k : IntKind} {w : World} {a : Option Addr} {n : Nat} {xs : List Int} (h : Ints k w a n xs) : Ints k w.drew a n xs := h
theorem Ints.drewN {k : IntKind} {w : World} {a : Option Addr} {n : Nat} {xs : List Int} (h : Ints k w a n xs) (q : Nat) : Ints k (w.drewN q) a n xs := h

theorem take_snoc (xs : List Int) (k : Nat) (h : k < xs.length) : xs.take (k + 1) = xs.take k ++ [xs.getD k 0] := by
  rw [List.take_succ_eq_append_getElem h]; simp [List.getD, h]

theorem ret_int {k : IntKind} {a b : Int} (h : a = b) : Ending.returned (.int k a) = .returned (.int k b) := by rw [h]
theorem ret_bool {a b : Bool} (h : a = b) : Ending.returned (.bool a) = .returned (.bool b) := by rw [h]
theorem val_int {k : IntKind} {a b : Int} (h : a = b) : Value.int k a = .int k b := by rw [h]

theorem Ints.dropped {k : IntKind} {w : World} {b off n : Nat} {xs : List Int} (h : Ints k w (some ⟨b, off, none⟩) n xs) (lo c : Nat) (hlo : lo ≤ n) (hc : n ≤ c) :
    Ints k w (if c = lo then some ⟨b, off, none⟩ else some ⟨b, off + lo, none⟩) (n - lo) (xs.drop lo) := by
  refine ⟨by rw [List.length_drop, h.1], ?_⟩
  by_cases hz : n - lo = 0
  · exact .inl hz
  · rw [if_neg (by omega)]
    obtain ⟨b', off', hb, _, hcell⟩ := h.at (by omega)
    simp only [Option.some.injEq, Addr.mk.injEq, and_true] at hb
    obtain ⟨rfl, rfl⟩ := hb
    refine .inr ⟨_, _, rfl, fun i hi => ?_⟩
    have := hcell (lo + i) (by omega)
    rw [Nat.add_assoc, this]
    simp [List.getD, List.getElem?_drop]
theorem Ints.sub {k : IntKind} {w : World} {b off n : Nat} {xs : List Int} (h : Ints k w (some ⟨b, off, none⟩) n xs) (lo hi : Nat) (hlo : lo ≤ hi) (hhi : hi ≤ n) :
    Ints k w (some ⟨b, off + lo, none⟩) (hi - lo) ((xs.drop lo).take (hi - lo)) := by
  refine ⟨by rw [List.length_take, List.length_drop, h.1]; omega, ?_⟩
  by_cases hz : hi - lo = 0
  · exact .inl hz
  · obtain ⟨b', off', hb, _, hcell⟩ := h.at (by omega)
    simp only [Option.some.injEq, Addr.mk.injEq, and_true] at hb
    obtain ⟨rfl, rfl⟩ := hb
    refine .inr ⟨_, _, rfl, fun i hi => ?_⟩
    have := hcell (lo + i) (by omega)
    rw [Nat.add_assoc, this]
    simp [List.getD, List.getElem?_drop, hi]
/-- The six cells of a block that is known whole. -/
theorem box6 {W : World} {B : Nat} {v0 v1 v2 v3 v4 v5 : Value} {t : TypeId} (h : W.heap[B]? = some (.cells #[v0, v1, v2, v3, v4, v5] t)) :
    W.cell? ⟨B, 0, none⟩ = some v0 ∧ W.cell? ⟨B, 1, none⟩ = some v1 ∧ W.cell? ⟨B, 2, none⟩ = some v2 ∧ W.cell? ⟨B, 3, none⟩ = some v3 ∧ W.cell? ⟨B, 4, none⟩ = some v4 ∧ W.cell? ⟨B, 5, none⟩ = some v5 := by
  simp [World.cell?, h]
/-- A mark at which the walk stands. -/
def Halt (p : Prop) : Prop := p
theorem Halt.out {p : Prop} (h : Halt p) : p := h
theorem Halt.mk {p : Prop} (h : p) : Halt p := h

end Go.Proofs.YtonjifkjammopaaGreatDoor
