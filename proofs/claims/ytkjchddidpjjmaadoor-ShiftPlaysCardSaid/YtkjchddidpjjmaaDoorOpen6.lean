/- What an argument is, once it is read: an address. Conditions: as each lemma states them. -/
import Derived.Test.YtkjchddidpjjmaaDoorFrame
import Derived.Test.YtkjchddidpjjmaaDoorSix
import Derived.Deep.Slices
namespace Go.Proofs.YtkjchddidpjjmaaDoor
open Go.ChangeShapes Go.WideShapes Go.ChangeAt Go.RowKit

def Six.Is (s : Six) : Prop := ∀ k, IsInt (s.l.getD k 0)

section
variable {H : Type} {enc : TypeId × Value → H} {W : World}

theorem open_cell_int {n : Nat} {c : Value} {y : Option (DataW H × List MemPlace)} (hy : y.isSome = true) (h : DataW.trod enc Tryd.prog W 0 (fun _ => true) true n 3 [c] = y) : ∃ x, c = .int .i64 x ∧ IsInt x := by
  obtain ⟨y, rfl⟩ := Option.isSome_iff_exists.1 hy
  obtain ⟨x, hx, _, hw⟩ := DataW.trod_int Tryd.underlying3 h
  exact ⟨x, by simpa using hx, wf_i64 hw⟩
theorem isSome_at {α : Type} {xs : List α} {n j : Nat} (h : xs.length = n) (hj : j < n) : (xs[j]?).isSome = true := by
  rw [List.getElem?_eq_getElem (by omega)]; rfl

theorem Tryd.cellsInt : Tryd.prog.cellsOf 3 = 1 := by kernel_rfl
theorem Tryd.cellsSix : Tryd.prog.cellsOf 23 = 8 := by kernel_rfl

set_option maxRecDepth 100000 in
theorem open_cells_six {n : Nat} {cs : List Value} {y : Option (DataW H × List MemPlace)} (hy : y.isSome = true) (h : DataW.trod enc Tryd.prog W 0 (fun _ => true) true n 23 cs = y) : ∃ s : Six, cs = s.cells.toList ∧ s.Is := by
  obtain ⟨y, rfl⟩ := Option.isSome_iff_exists.1 hy
  obtain ⟨xs, m, _, _, hl, hlen, hg⟩ := DataW.trod_array Tryd.underlying23 h
  match cs, hl.trans Tryd.cellsSix with
  | [c0, c1, c2, c3, c4, c5, c6, c7], _ =>
    obtain ⟨x0, rfl, i0⟩ := open_cell_int (isSome_at (j := 0) hlen (by omega)) (by simpa [Tryd.cellsInt] using hg 0 (by omega))
    obtain ⟨x1, rfl, i1⟩ := open_cell_int (isSome_at (j := 1) hlen (by omega)) (by simpa [Tryd.cellsInt] using hg 1 (by omega))
    obtain ⟨x2, rfl, i2⟩ := open_cell_int (isSome_at (j := 2) hlen (by omega)) (by simpa [Tryd.cellsInt] using hg 2 (by omega))
    obtain ⟨x3, rfl, i3⟩ := open_cell_int (isSome_at (j := 3) hlen (by omega)) (by simpa [Tryd.cellsInt] using hg 3 (by omega))
    obtain ⟨x4, rfl, i4⟩ := open_cell_int (isSome_at (j := 4) hlen (by omega)) (by simpa [Tryd.cellsInt] using hg 4 (by omega))
    obtain ⟨x5, rfl, i5⟩ := open_cell_int (isSome_at (j := 5) hlen (by omega)) (by simpa [Tryd.cellsInt] using hg 5 (by omega))
    obtain ⟨x6, rfl, i6⟩ := open_cell_int (isSome_at (j := 6) hlen (by omega)) (by simpa [Tryd.cellsInt] using hg 6 (by omega))
    obtain ⟨x7, rfl, i7⟩ := open_cell_int (isSome_at (j := 7) hlen (by omega)) (by simpa [Tryd.cellsInt] using hg 7 (by omega))
    refine ⟨⟨x0, x1, x2, x3, x4, x5, x6, x7⟩, rfl, fun k => ?_⟩
    match k with
    | 0 => exact i0
    | 1 => exact i1
    | 2 => exact i2
    | 3 => exact i3
    | 4 => exact i4
    | 5 => exact i5
    | 6 => exact i6
    | 7 => exact i7
    | k + 8 => simp [Six.l, IsInt]

set_option maxRecDepth 100000 in
/-- An address that came in. -/
theorem open_six {v : Value} {d : DataW H} {p : List MemPlace} {base : Nat} (hv : Value.okWide Tryd.prog W .any base 23 v) (h : DataW.Trod enc Tryd.prog W 0 (fun _ => true) true 23 v d p) : ∃ s : Six, v = s.v ∧ s.Is := by
  obtain ⟨fuel, hf⟩ := h
  obtain ⟨s, hs, hi⟩ := open_cells_six rfl hf
  simp only [Value.okWide, Tryd.underlying23] at hv
  obtain ⟨cs, rfl, _⟩ := hv
  refine ⟨s, ?_, hi⟩
  have : cs.toList = s.cells.toList := by simpa [Value.cells] using hs
  rw [Array.toList_inj.1 this]

end
end Go.Proofs.YtkjchddidpjjmaaDoor
