/- What an argument is, once it is read: a packet of sixes. Conditions: as each lemma states them. -/
import Derived.Test.YtlgdmipejgggkaaDoorOpen6
import Derived.Test.YtlgdmipejgggkaaDoorOpen
import Derived.Test.YtlgdmipejgggkaaDoorIp6
namespace Go.Proofs.YtlgdmipejgggkaaDoor
open Go.ChangeShapes Go.WideShapes Go.ChangeAt Go.RowKit
/-- A packet of sixes that came in. -/
def IsP6 (w : World) (p : P6) (a : Option Addr) (n c : Nat) (xs : List Int) : Prop := IsBytes w a n c xs ∧ (a = none → c = 0) ∧ p.src.Is ∧ p.dst.Is ∧ IsInt p.hop ∧ IsInt p.kind
section
variable {H : Type} {enc : TypeId × Value → H} {W : World}
theorem Tryd.cellsP6 : Tryd.prog.cellsOf 39 = 19 := by kernel_rfl
theorem Tryd.cellsB6 : Tryd.prog.cellsOf 22 = 1 := by kernel_rfl
set_option maxRecDepth 100000 in
theorem open_pack6 {v : Value} {d : DataW H} {p : List MemPlace} {base : Nat} (hv : Value.okWide Tryd.prog W .any base 39 v) (h : DataW.Trod enc Tryd.prog W 0 (fun _ => true) true 39 v d p) :
    ∃ (q : P6) (a : Option Addr) (n c : Nat) (xs : List Int), v = q.v (.slice a n c) ∧ IsP6 W q a n c xs := by
  obtain ⟨cs, rfl, hsz⟩ := okWide_struct Tryd.underlying39 hv
  obtain ⟨l⟩ := cs
  match l, hsz.trans Tryd.cellsP6 with
  | [c0, c1, c2, c3, c4, c5, c6, c7, c8, c9, c10, c11, c12, c13, c14, c15, c16, c17, c18], _ =>
    obtain ⟨fuel, hf⟩ := h
    obtain ⟨xs, m, _, _, _, hlen, hg⟩ := DataW.trod_struct Tryd.underlying39 hf
    obtain ⟨s0, h0, i0⟩ := open_cells_six (isSome_at (j := 0) hlen (by simp)) (by simpa [Value.cells, Tryd.cellsSix] using hg 0 _ rfl)
    obtain ⟨s1, h1, i1⟩ := open_cells_six (isSome_at (j := 1) hlen (by simp)) (by simpa [Value.cells, Tryd.cellsSix] using hg 1 _ rfl)
    obtain ⟨x2, rfl, i2⟩ := open_cell_int (isSome_at (j := 2) hlen (by simp)) (by simpa [Value.cells, Tryd.cellsInt] using hg 2 _ rfl)
    obtain ⟨x3, rfl, i3⟩ := open_cell_int (isSome_at (j := 3) hlen (by simp)) (by simpa [Value.cells, Tryd.cellsInt] using hg 3 _ rfl)
    obtain ⟨a, n, k, ys, rfl, hy, hn⟩ := open_field_bytes (isSome_at (j := 4) hlen (by simp)) (by simpa [Value.cells, Tryd.cellsB6] using hg 4 _ rfl)
    refine ⟨⟨s0, s1, x2, x3⟩, a, n, k, ys, ?_, hy, hn, i0, i1, i2, i3⟩
    have e0 : [c0, c1, c2, c3, c4, c5, c6, c7] = s0.cells.toList := h0
    have e1 : [c8, c9, c10, c11, c12, c13, c14, c15] = s1.cells.toList := h1
    simp only [Six.cells, List.cons.injEq, and_true] at e0 e1
    obtain ⟨rfl, rfl, rfl, rfl, rfl, rfl, rfl, rfl⟩ := e0
    obtain ⟨rfl, rfl, rfl, rfl, rfl, rfl, rfl, rfl⟩ := e1
    rfl
end
end Go.Proofs.YtlgdmipejgggkaaDoor
