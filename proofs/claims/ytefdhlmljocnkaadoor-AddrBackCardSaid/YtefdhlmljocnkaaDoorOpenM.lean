/- What an argument is, once it is read: addresses, flows, lists of servers. Conditions: as each lemma states them. -/
import Derived.Test.YtefdhlmljocnkaaDoorFrame
import Derived.Test.YtefdhlmljocnkaaDoorBacks
import Derived.Deep.Slices
namespace Go.Proofs.YtefdhlmljocnkaaDoor
open Go.ChangeShapes Go.WideShapes Go.ChangeAt Go.RowKit

def Six.Is (s : Six) : Prop := ∀ k, IsInt (s.l.getD k 0)

section
variable {H : Type} {enc : TypeId × Value → H} {W : World}

theorem open_cell_int {n : Nat} {c : Value} {y : Option (DataW H × List MemPlace)} (hy : y.isSome = true) (h : DataW.trod enc Tryd.prog W 0 (fun _ => true) true n 3 [c] = y) : ∃ x, c = .int .i64 x ∧ IsInt x := by
  obtain ⟨y, rfl⟩ := Option.isSome_iff_exists.1 hy
  obtain ⟨x, hx, _, hw⟩ := DataW.trod_int Tryd.underlying3 h
  exact ⟨x, by simpa using hx, wf_i64 hw⟩
theorem open_cell_bool {n : Nat} {c : Value} {y : Option (DataW H × List MemPlace)} (hy : y.isSome = true) (h : DataW.trod enc Tryd.prog W 0 (fun _ => true) true n 4 [c] = y) : ∃ x, c = .bool x := by
  obtain ⟨y, rfl⟩ := Option.isSome_iff_exists.1 hy
  obtain ⟨x, hx, _⟩ := DataW.trod_bool Tryd.underlying4 h
  exact ⟨x, by simpa using hx⟩
theorem isSome_at {α : Type} {xs : List α} {n j : Nat} (h : xs.length = n) (hj : j < n) : (xs[j]?).isSome = true := by
  rw [List.getElem?_eq_getElem (by omega)]; rfl

theorem Tryd.cellsInt : Tryd.prog.cellsOf 3 = 1 := by kernel_rfl
theorem Tryd.cellsSix : Tryd.prog.cellsOf 23 = 8 := by kernel_rfl
theorem Tryd.cellsFlow : Tryd.prog.cellsOf 47 = 19 := by kernel_rfl
theorem Tryd.cellsBool : Tryd.prog.cellsOf 4 = 1 := by kernel_rfl
theorem Tryd.cellsBack : Tryd.prog.cellsOf 95 = 6 := by kernel_rfl

set_option maxRecDepth 100000 in
theorem open_cells_six {n : Nat} {cs : List Value} {y : Option (DataW H × List MemPlace)} (hy : y.isSome = true) (h : DataW.trod enc Tryd.prog W 0 (fun _ => true) true n 23 cs = y) : ∃ s : Six, cs = s.cells.toList ∧ s.Is := by
  obtain ⟨y, rfl⟩ := Option.isSome_iff_exists.1 hy
  obtain ⟨xs, m, _, _, hl, hlen, hg⟩ := DataW.trod_array Tryd.underlying23 h
  match cs, hl.trans Tryd.cellsSix with
  | [c0, c1, c2, c3, c4, c5, c6, c7], _ =>
    obtain ⟨x0, rfl, i0⟩ := open_cell_int (isSome_at (j := 0) hlen (by omega)) (by simpa [Tryd.cellsInt] using hg 0 (by omega))
    obtain ⟨x1, rfl, i1⟩ := open_cell_int (isSome_at (j := 1) hlen (by omega)) (by simpa [Tryd.cellsInt] using hg 1 (by omega))
    obtain ⟨x2, rfl, i2⟩ := open_cell_int (isSome_at (j := 2) hlen (by omega)) (by simpa [Tryd.cellsInt] using hg 2 (by omega))
    obtain ⟨x3, rfl, i3⟩ := open_cell_int (isSome_at (j := 3) hlen (by omega)) (by simpa [Tryd.cellsInt] using hg 3 (by omega))
    obtain ⟨x4, rfl, i4⟩ := open_cell_int (isSome_at (j := 4) hlen (by omega)) (by simpa [Tryd.cellsInt] using hg 4 (by omega))
    obtain ⟨x5, rfl, i5⟩ := open_cell_int (isSome_at (j := 5) hlen (by omega)) (by simpa [Tryd.cellsInt] using hg 5 (by omega))
    obtain ⟨x6, rfl, i6⟩ := open_cell_int (isSome_at (j := 6) hlen (by omega)) (by simpa [Tryd.cellsInt] using hg 6 (by omega))
    obtain ⟨x7, rfl, i7⟩ := open_cell_int (isSome_at (j := 7) hlen (by omega)) (by simpa [Tryd.cellsInt] using hg 7 (by omega))
    refine ⟨⟨x0, x1, x2, x3, x4, x5, x6, x7⟩, rfl, fun k => ?_⟩
    match k with
    | 0 => exact i0
    | 1 => exact i1
    | 2 => exact i2
    | 3 => exact i3
    | 4 => exact i4
    | 5 => exact i5
    | 6 => exact i6
    | 7 => exact i7
    | k + 8 => simp [Six.l, IsInt]

set_option maxRecDepth 100000 in
/-- An address that came in. -/
theorem open_six {v : Value} {d : DataW H} {p : List MemPlace} {base : Nat} (hv : Value.okWide Tryd.prog W .any base 23 v) (h : DataW.Trod enc Tryd.prog W 0 (fun _ => true) true 23 v d p) : ∃ s : Six, v = s.v ∧ s.Is := by
  obtain ⟨fuel, hf⟩ := h
  obtain ⟨s, hs, hi⟩ := open_cells_six rfl hf
  simp only [Value.okWide, Tryd.underlying23] at hv
  obtain ⟨cs, rfl, _⟩ := hv
  refine ⟨s, ?_, hi⟩
  have : cs.toList = s.cells.toList := by simpa [Value.cells] using hs
  rw [Array.toList_inj.1 this]

def Flow.Is (f : Flow) : Prop := IsInt f.kind ∧ f.client.Is ∧ IsInt f.port ∧ f.dst.Is ∧ IsInt f.door
set_option maxRecDepth 100000 in
theorem open_cells_flow {n : Nat} {cs : List Value} {y : Option (DataW H × List MemPlace)} (hy : y.isSome = true) (h : DataW.trod enc Tryd.prog W 0 (fun _ => true) true n 47 cs = y) : ∃ f : Flow, cs = f.cells.toList ∧ f.Is := by
  obtain ⟨y, rfl⟩ := Option.isSome_iff_exists.1 hy
  obtain ⟨xs, m, _, _, hl, hlen, hg⟩ := DataW.trod_struct Tryd.underlying47 h
  match cs, hl.trans Tryd.cellsFlow with
  | [c0, c1, c2, c3, c4, c5, c6, c7, c8, c9, c10, c11, c12, c13, c14, c15, c16, c17, c18], _ =>
    obtain ⟨x0, rfl, i0⟩ := open_cell_int (isSome_at (j := 0) hlen (by simp)) (by simpa [Tryd.cellsInt] using hg 0 _ rfl)
    obtain ⟨s1, h1, i1⟩ := open_cells_six (isSome_at (j := 1) hlen (by simp)) (by simpa [Tryd.cellsSix] using hg 1 _ rfl)
    obtain ⟨x2, rfl, i2⟩ := open_cell_int (isSome_at (j := 2) hlen (by simp)) (by simpa [Tryd.cellsInt] using hg 2 _ rfl)
    obtain ⟨s3, h3, i3⟩ := open_cells_six (isSome_at (j := 3) hlen (by simp)) (by simpa [Tryd.cellsSix] using hg 3 _ rfl)
    obtain ⟨x4, rfl, i4⟩ := open_cell_int (isSome_at (j := 4) hlen (by simp)) (by simpa [Tryd.cellsInt] using hg 4 _ rfl)
    refine ⟨⟨x0, s1, x2, s3, x4⟩, ?_, i0, i1, i2, i3, i4⟩
    have e1 : [c1, c2, c3, c4, c5, c6, c7, c8] = s1.cells.toList := h1
    have e3 : [c10, c11, c12, c13, c14, c15, c16, c17] = s3.cells.toList := h3
    simp only [Six.cells, List.cons.injEq, and_true] at e1 e3
    obtain ⟨rfl, rfl, rfl, rfl, rfl, rfl, rfl, rfl⟩ := e1
    obtain ⟨rfl, rfl, rfl, rfl, rfl, rfl, rfl, rfl⟩ := e3
    rfl
set_option maxRecDepth 100000 in
theorem open_flow {v : Value} {d : DataW H} {p : List MemPlace} {base : Nat} (hv : Value.okWide Tryd.prog W .any base 47 v) (h : DataW.Trod enc Tryd.prog W 0 (fun _ => true) true 47 v d p) : ∃ f : Flow, v = f.v ∧ f.Is := by
  obtain ⟨cs, rfl, hsz⟩ := okWide_struct Tryd.underlying47 hv
  obtain ⟨fuel, hf⟩ := h
  obtain ⟨s, hs, hi⟩ := open_cells_flow rfl hf
  refine ⟨s, ?_, hi⟩
  have : cs.toList = s.cells.toList := by simpa [Value.cells] using hs
  rw [Array.toList_inj.1 this]

/-- Servers that came in. -/
def IsBacks (w : World) (a : Option Addr) (n c : Nat) (bs : List Pl.Back) : Prop := Backs w a n bs ∧ n ≤ c ∧ c ≤ maxLen
instance : Inhabited Pl.Back := ⟨Pl.back0⟩
set_option maxRecDepth 100000 in
theorem open_backs {a : Option Addr} {n c : Nat} {d : DataW H} {p : List MemPlace}
    (h : DataW.Trod enc Tryd.prog W 0 (fun _ => true) true 24 (.slice a n c) d p) : ∃ bs, IsBacks W a n c bs := by
  obtain ⟨fuel, hf⟩ := h
  rcases Go.Deep.open_slice Tryd.underlying24 hf with ⟨hcs, _⟩ | ⟨x, l, c', m, n', D, P, hcs, _, hl, hm, hmm, _, hx⟩
  · simp [Value.cells] at hcs
    obtain ⟨rfl, rfl, rfl⟩ := hcs
    exact ⟨[], ⟨rfl, .inl rfl⟩, Nat.le_refl _, Nat.zero_le _⟩
  · simp [Value.cells] at hcs
    obtain ⟨rfl, rfl, rfl⟩ := hcs
    simp only [if_true] at hmm
    subst hmm
    obtain ⟨b, off, spot⟩ := x
    have key : ∀ i, i < m → ∃ y : Pl.Back, ∀ j, j < 6 → W.cell? ((Addr.mk b off spot).add (i * 6 + j)) = (#[.int .i64 y.id, .int .i64 y.addr, .int .i64 y.door, .int .i64 y.weight, .bool y.up, .bool y.drain] : Array Value)[j]? := fun i hi => by
      obtain ⟨cs', hc', ht⟩ := hx i hi
      rw [Tryd.cellsBack] at hc'
      obtain ⟨xs, q, _, _, hl', hlen, hg⟩ := DataW.trod_struct Tryd.underlying95 ht
      obtain ⟨_, hcl, hat⟩ := World.cells?_some hc'
      match cs', hl'.trans Tryd.cellsBack with
      | [c0, c1, c2, c3, c4, c5], _ =>
        obtain ⟨x0, rfl, _⟩ := open_cell_int (isSome_at (j := 0) hlen (by simp)) (by simpa [Tryd.cellsInt] using hg 0 _ rfl)
        obtain ⟨x1, rfl, _⟩ := open_cell_int (isSome_at (j := 1) hlen (by simp)) (by simpa [Tryd.cellsInt] using hg 1 _ rfl)
        obtain ⟨x2, rfl, _⟩ := open_cell_int (isSome_at (j := 2) hlen (by simp)) (by simpa [Tryd.cellsInt] using hg 2 _ rfl)
        obtain ⟨x3, rfl, _⟩ := open_cell_int (isSome_at (j := 3) hlen (by simp)) (by simpa [Tryd.cellsInt] using hg 3 _ rfl)
        obtain ⟨x4, rfl⟩ := open_cell_bool (isSome_at (j := 4) hlen (by simp)) (by simpa [Tryd.cellsBool] using hg 4 _ rfl)
        obtain ⟨x5, rfl⟩ := open_cell_bool (isSome_at (j := 5) hlen (by simp)) (by simpa [Tryd.cellsBool] using hg 5 _ rfl)
        refine ⟨⟨x0, x1, x2, x3, x4, x5⟩, fun j hj => ?_⟩
        rw [← Go.Deep.add_add, hat j hj]
        simp
    obtain ⟨F, hF⟩ := Go.Deep.choose_lt key
    refine ⟨(List.range n).map F, ⟨by simp, ?_⟩, hl, hm⟩
    rcases Nat.eq_zero_or_pos n with h0 | h0
    · exact .inl h0
    · refine .inr ?_
      have hspot : spot = none := by
        have := hF 0 (by omega) 0 (by omega)
        simpa [Addr.add] using World.cell?_spot this
      subst hspot
      refine ⟨b, off, rfl, fun i hi => ?_⟩
      have e : ((List.range n).map F).getD i Pl.back0 = F i := by simp [List.getD, hi]
      rw [e]
      have q := hF i (by omega)
      refine ⟨?_, ?_, ?_, ?_, ?_, ?_⟩
      · have := q 0 (by omega); rw [Addr.add_lit] at this; exact this
      · have := q 1 (by omega); rw [Addr.add_lit] at this; exact this
      · have := q 2 (by omega); rw [Addr.add_lit] at this; exact this
      · have := q 3 (by omega); rw [Addr.add_lit] at this; exact this
      · have := q 4 (by omega); rw [Addr.add_lit] at this; exact this
      · have := q 5 (by omega); rw [Addr.add_lit] at this; exact this
end
end Go.Proofs.YtefdhlmljocnkaaDoor
