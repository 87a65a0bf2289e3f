/- What an argument that is a struct is, once it is read: each number and slice in it. Conditions: as each lemma states them. -/
import Derived.Test.YtkjchddidpjjmaaDoorFrame
import Derived.Test.YtkjchddidpjjmaaDoorIp4
namespace Go.Proofs.YtkjchddidpjjmaaDoor
open Go.ChangeShapes Go.WideShapes Go.ChangeAt Go.RowKit

section
variable {H : Type} {enc : TypeId × Value → H} {W : World}

theorem open_field_int {n : Nat} {t : TypeId} (ht : Tryd.prog.underlying t = some (.int .i64)) {c : Value} {y : Option (DataW H × List MemPlace)} (hy : y.isSome = true) (h : DataW.trod enc Tryd.prog W 0 (fun _ => true) true n t [c] = y) : ∃ x, c = .int .i64 x ∧ IsInt x := by
  obtain ⟨y, rfl⟩ := Option.isSome_iff_exists.1 hy
  obtain ⟨x, hx, _, hw⟩ := DataW.trod_int ht h
  exact ⟨x, by simpa using hx, wf_i64 hw⟩
theorem open_field_bytes {n : Nat} {c : Value} {y : Option (DataW H × List MemPlace)} (hy : y.isSome = true) (h : DataW.trod enc Tryd.prog W 0 (fun _ => true) true n 40 [c] = y) : ∃ a l k xs, c = .slice a l k ∧ IsBytes W a l k xs ∧ (a = none → k = 0) := by
  obtain ⟨y, rfl⟩ := Option.isSome_iff_exists.1 hy
  rcases open_ints Tryd.underlying40 Tryd.underlying5 (by kernel_rfl) h with ⟨hcs, _⟩ | ⟨x, l, c', zs, hcs, _, hl, hm, hz, _, hcell, hwz⟩
  · obtain rfl : c = .slice none 0 0 := by simpa using hcs
    exact ⟨none, 0, 0, [], rfl, ⟨Ints.nil, Pl.IsB.nil, Nat.le_refl _, Nat.zero_le _⟩, fun _ => rfl⟩
  · obtain rfl : c = .slice (some x) l c' := by simpa using hcs
    exact ⟨some x, l, c', zs.take l, rfl, ⟨ints_of_cells hl (by simpa using hz) hcell, fun y hy => wf_u8 (hwz y (List.mem_of_mem_take hy)), hl, hm⟩, fun h => by cases h⟩

theorem isSome_of_len {α : Type} {xs : List α} {n j : Nat} (h : xs.length = n) (hj : j < n) : (xs[j]?).isSome = true := by
  rw [List.getElem?_eq_getElem (by omega)]; rfl

set_option maxRecDepth 100000 in
/-- A packet of fours that came in. -/
theorem open_pack4 {v : Value} {d : DataW H} {p : List MemPlace} {base : Nat} (hv : Value.okWide Tryd.prog W .any base 74 v) (h : DataW.Trod enc Tryd.prog W 0 (fun _ => true) true 74 v d p) :
    ∃ s d t k i a l c xs, v = pk4 s d t k i (.slice a l c) ∧ (IsInt s ∧ IsInt d ∧ IsInt t ∧ IsInt k ∧ IsInt i) ∧ IsBytes W a l c xs ∧ (a = none → c = 0) := by
  obtain ⟨cs, rfl, hsz⟩ := okWide_struct Tryd.underlying74 hv
  obtain ⟨l⟩ := cs
  have hC : Tryd.prog.cellsOf 74 = 6 := by kernel_rfl
  have hI : Tryd.prog.cellsOf 3 = 1 := by kernel_rfl
  have hB : Tryd.prog.cellsOf 40 = 1 := by kernel_rfl
  match l, hsz.trans hC with
  | [c0, c1, c2, c3, c4, c5], _ =>
    obtain ⟨fuel, hf⟩ := h
    obtain ⟨xs, n, _, _, _, hlen, hg⟩ := DataW.trod_struct Tryd.underlying74 hf
    have e0 : DataW.trod enc Tryd.prog W 0 (fun _ => true) true n 3 [c0] = xs[0]? := by simpa [Value.cells, hI] using hg 0 _ rfl
    have e1 : DataW.trod enc Tryd.prog W 0 (fun _ => true) true n 3 [c1] = xs[1]? := by simpa [Value.cells, hI] using hg 1 _ rfl
    have e2 : DataW.trod enc Tryd.prog W 0 (fun _ => true) true n 3 [c2] = xs[2]? := by simpa [Value.cells, hI] using hg 2 _ rfl
    have e3 : DataW.trod enc Tryd.prog W 0 (fun _ => true) true n 3 [c3] = xs[3]? := by simpa [Value.cells, hI] using hg 3 _ rfl
    have e4 : DataW.trod enc Tryd.prog W 0 (fun _ => true) true n 3 [c4] = xs[4]? := by simpa [Value.cells, hI] using hg 4 _ rfl
    have e5 : DataW.trod enc Tryd.prog W 0 (fun _ => true) true n 40 [c5] = xs[5]? := by simpa [Value.cells, hB] using hg 5 _ rfl
    obtain ⟨x0, rfl, i0⟩ := open_field_int Tryd.underlying3 (isSome_of_len hlen (by simp)) e0
    obtain ⟨x1, rfl, i1⟩ := open_field_int Tryd.underlying3 (isSome_of_len hlen (by simp)) e1
    obtain ⟨x2, rfl, i2⟩ := open_field_int Tryd.underlying3 (isSome_of_len hlen (by simp)) e2
    obtain ⟨x3, rfl, i3⟩ := open_field_int Tryd.underlying3 (isSome_of_len hlen (by simp)) e3
    obtain ⟨x4, rfl, i4⟩ := open_field_int Tryd.underlying3 (isSome_of_len hlen (by simp)) e4
    obtain ⟨a, m, k, ys, rfl, hy, hn⟩ := open_field_bytes (isSome_of_len hlen (by simp)) e5
    exact ⟨x0, x1, x2, x3, x4, a, m, k, ys, rfl, ⟨i0, i1, i2, i3, i4⟩, hy, hn⟩
end
end Go.Proofs.YtkjchddidpjjmaaDoor
