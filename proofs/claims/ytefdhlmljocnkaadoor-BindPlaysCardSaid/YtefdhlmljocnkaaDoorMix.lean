/- The contract of the mixer's mix: numbers mixed into it. Conditions: as each theorem states them. -/
import Derived.Test.YtefdhlmljocnkaaDoorSix
import Derived.Test.YtefdhlmljocnkaaDoorPickPl
namespace Go.Proofs.YtefdhlmljocnkaaDoor
open Go.RowKit
namespace Pl
def mix1 (m n : Int) : Int := (m * 69069 + n + 1) % 2147483648
def mix (m : Int) (l : List Int) : Int := l.foldl mix1 m
theorem mix_snoc (m : Int) (l : List Int) (x : Int) : mix m (l ++ [x]) = mix1 (mix m l) x := by simp [mix]
theorem mix_append (m : Int) (l k : List Int) : mix m (l ++ k) = mix (mix m l) k := by simp [mix]
theorem mix_bd (m : Int) (l : List Int) (h : 0 ≤ m ∧ m < 2147483648) : 0 ≤ mix m l ∧ mix m l < 2147483648 := by
  refine snoc_ind (P := fun l => 0 ≤ mix m l ∧ mix m l < 2147483648) h (fun l a _ => ?_) l
  rw [mix_snoc]
  unfold mix1
  omega
end Pl

/-- Only block g has turned (and what is new). -/
theorem only_set {a w : World} {g : Nat} (h : a.grownBy w (some g)) (j : Nat) (u : Value) : a.grownBy (w.setCell ⟨g, j, none⟩ u) (some g) :=
  ⟨h.os, h.tape, h.output, by simpa [World.setCell] using h.size, fun i hi hne => (Below.heap_setCell w ⟨g, j, none⟩ u i (by rintro rfl; exact hne rfl)).trans (h.block i hi hne)⟩
theorem Blk.only {w w' : World} {g g' : Nat} {t : TypeId} {cs : Array Value} (h : Blk w g t cs) (hb : w.grownBy w' (some g')) (hg : g ≠ g') : Blk w' g t cs := (hb.block g h.lt (fun e => hg (Option.some.inj e))).trans h
theorem Ints.only {k : IntKind} {w w' : World} {a : Option Addr} {n : Nat} {xs : List Int} {g : Nat} (h : Ints k w a n xs) (hb : w.grownBy w' (some g)) (hg : ∀ p, a = some p → p.block ≠ g) : Ints k w' a n xs := by
  refine ⟨h.1, ?_⟩
  rcases h.2 with h0 | ⟨b, off, rfl, hc⟩
  · exact .inl h0
  · refine .inr ⟨b, off, rfl, fun i hi => ?_⟩
    have := hc i hi
    rw [World.cell?_of_block (hb.block b (World.block_lt_of_cell? w _ this) (fun e => hg _ rfl (Option.some.inj e)))]
    exact this
theorem Below.only {B : Nat} {a w w' : World} {g : Nat} (h : Below B a w) (hb : w.grownBy w' (some g)) (hB : B ≤ w.heap.size) (hg : B ≤ g) : Below B a w' := h.grown hb hB fun _ e => by rw [← Option.some.inj e]; exact hg

theorem words_at {l : List Int} (h : words l = true) (k : Nat) : 0 ≤ l.getD k 0 ∧ l.getD k 0 ≤ 65535 := by
  by_cases hk : k < l.length
  · by_cases hb : 0 ≤ l.getD k 0 ∧ l.getD k 0 ≤ 65535
    · exact hb
    · rw [words_bad l k hk hb] at h; cases h
  · rw [List.getD_eq_getElem?_getD, List.getElem?_eq_none (by omega)]; simp

end Go.Proofs.YtefdhlmljocnkaaDoor
