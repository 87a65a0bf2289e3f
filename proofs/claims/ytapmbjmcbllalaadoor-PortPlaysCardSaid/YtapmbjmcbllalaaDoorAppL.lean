/- append of bytes just made, with where the outcome lies. Conditions: as each lemma states them. -/
import Derived.Test.YtapmbjmcbllalaaDoorMem
import Derived.Deep.AppendLies
namespace Go.Proofs.YtapmbjmcbllalaaDoor
open Go.RowKit

theorem Ints.keepBy {k : IntKind} {w w' : World} {a : Option Addr} {n : Nat} {xs : List Int} {row : Option Nat} (h : Ints k w a n xs) (hb : w.grownBy w' row) (hg : ∀ p, a = some p → some p.block ≠ row) : Ints k w' a n xs := by
  refine ⟨h.1, ?_⟩
  rcases h.2 with h0 | ⟨b, off, rfl, hc⟩
  · exact .inl h0
  · refine .inr ⟨b, off, rfl, fun i hi => ?_⟩
    have := hc i hi
    rw [World.cell?_of_block (hb.block b (World.block_lt_of_cell? w _ this) (hg _ rfl))]
    exact this

theorem getD_all2 {xs : List Int} (h : ∀ x ∈ xs, 0 ≤ x ∧ x ≤ 65535) (k : Nat) : 0 ≤ xs.getD k 0 ∧ xs.getD k 0 ≤ 65535 := by
  by_cases hk : k < xs.length
  · rw [List.getD_eq_getElem?_getD, List.getElem?_eq_getElem hk]
    exact h _ (List.getElem_mem hk)
  · rw [List.getD_eq_getElem?_getD, List.getElem?_eq_none (by omega)]
    exact ⟨Int.le_refl 0, by decide⟩

end Go.Proofs.YtapmbjmcbllalaaDoor
