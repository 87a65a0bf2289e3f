/- The law CrossBack: what crosses comes back as it was, but two steps further; of its body nothing changes but the check; its bytes are a packet. Conditions: the row's own: errors.errorType holds its handle (tied). -/
import Derived.Test.YtkjchddidpjjmaaDoorRows
import Derived.Test.YtkjchddidpjjmaaDoorBase
import Derived.ProofKit
import Derived.OpenShut
import Derived.ShutString
import Derived.ChangeOld
import Derived.Test.YtkjchddidpjjmaaDoorErr
import Derived.ChangeSame
import Derived.ChangeVars
import Derived.JoinedOf
import Derived.LaidLaws
import Derived.LaidHandle
import Derived.Stop.Joined
import Derived.Test.YtkjchddidpjjmaaDoorSix
import Derived.Deep.Slices
import Derived.Test.YtkjchddidpjjmaaDoorIp4
import Derived.Test.YtkjchddidpjjmaaDoorIp6
import Derived.Test.YtkjchddidpjjmaaDoorSegC6
import Derived.Test.YtkjchddidpjjmaaDoorRefH6
import Derived.Test.YtkjchddidpjjmaaDoorCopy
import Derived.Test.YtkjchddidpjjmaaDoorOf
import Derived.Deep.RegionLaw
import Derived.Deep.DeepCutAuto
import Derived.Test.YtkjchddidpjjmaaDoorRef4
import Derived.Test.YtkjchddidpjjmaaDoorErv
import Derived.Test.YtkjchddidpjjmaaDoorRef6
import Derived.Deep.RegionHeld3
import Derived.Test.YtkjchddidpjjmaaDoorTail
import Derived.Test.YtkjchddidpjjmaaDoorStore
import Derived.Laws.Tables
import Derived.Test.YtkjchddidpjjmaaDoorOver6
import Derived.Test.YtkjchddidpjjmaaDoorMem
import Derived.Test.YtkjchddidpjjmaaDoorIp6k
import Derived.Laws.StructEq
import Derived.Test.YtkjchddidpjjmaaDoorStr
import Derived.Test.YtkjchddidpjjmaaDoorSame
import Derived.Test.YtkjchddidpjjmaaDoorTie
import Derived.Test.YtkjchddidpjjmaaDoorCards
import Derived.SevenTiedAt
/- What an argument of a law is, once it is read: bytes, numbers. Conditions: as each lemma states them. -/
namespace Go.Proofs.YtkjchddidpjjmaaDoor
open Go.ChangeShapes Go.WideShapes Go.ChangeAt Go.RowKit

theorem own : ownKnob Tryd.prog.godebug = none := by kernel_rfl
theorem laidOut : laidOutB Tryd.prog = true := by kernel_rfl

theorem wf_u8 {x : Int} (h : (Lit.int .u8 x).wf = true) : 0 ≤ x ∧ x ≤ 255 := by
  simp [Lit.wf, IntKind.min, IntKind.max, IntKind.signed, IntKind.bits] at h
  omega
theorem wf_i64 {x : Int} (h : (Lit.int .i64 x).wf = true) : -9223372036854775808 ≤ x ∧ x ≤ 9223372036854775807 := by
  simp [Lit.wf, IntKind.min, IntKind.max, IntKind.signed, IntKind.bits] at h
  omega

/-- A slice of bytes that came in. -/
def IsBytes (w : World) (a : Option Addr) (n c : Nat) (xs : List Int) : Prop := Ints .u8 w a n xs ∧ Pl.IsB xs ∧ n ≤ c ∧ c ≤ maxLen
/-- A number that came in. -/
def IsInt (x : Int) : Prop := -9223372036854775808 ≤ x ∧ x ≤ 9223372036854775807

theorem ints_of_cells {k : IntKind} {w : World} {a : Addr} {len cap : Nat} {zs : List Int} (hl : len ≤ cap) (hz : zs.length = cap) (hcell : ∀ i, i < zs.length → w.cell? (a.add i) = some (.int k (zs.getD i 0))) : Ints k w (some a) len (zs.take len) := by
  refine ⟨by rw [List.length_take]; omega, ?_⟩
  rcases Nat.eq_zero_or_pos len with h0 | h0
  · exact .inl h0
  · refine .inr ?_
    obtain ⟨b, off, spot⟩ := a
    have hc := hcell 0 (by omega)
    have hspot : spot = none := by simpa [Addr.add] using World.cell?_spot hc
    subst hspot
    refine ⟨b, off, rfl, fun i hi => ?_⟩
    have h := hcell i (by omega)
    rw [Addr.add_lit] at h
    rw [h]
    simp [List.getD, hi]

theorem open_bytes {H : Type} {enc : TypeId × Value → H} {W : World} {a : Option Addr} {n c : Nat} {d : DataW H} {p : List MemPlace}
    (h : DataW.Trod enc Tryd.prog W 0 (fun _ => true) true 40 (.slice a n c) d p) : ∃ xs, IsBytes W a n c xs := by
  obtain ⟨fuel, hf⟩ := h
  rcases open_ints Tryd.underlying40 Tryd.underlying5 (by kernel_rfl) hf with ⟨hcs, _⟩ | ⟨x, l, c', zs, hcs, _, hl, hm, hz, _, hcell, hwz⟩
  · simp [Value.cells] at hcs
    obtain ⟨rfl, rfl, rfl⟩ := hcs
    exact ⟨[], Ints.nil, Pl.IsB.nil, Nat.le_refl _, Nat.zero_le _⟩
  · simp [Value.cells] at hcs
    obtain ⟨rfl, rfl, rfl⟩ := hcs
    exact ⟨zs.take n, ints_of_cells hl (by simpa using hz) hcell, fun y hy => wf_u8 (hwz y (List.mem_of_mem_take hy)), hl, hm⟩

end Go.Proofs.YtkjchddidpjjmaaDoor
/- What the condition of a tied row gives: the handle in errors.errorType; a world that meets it. After the kit's worked toy 'toyas'. Conditions: as each lemma states them. -/
namespace Go.Proofs.YtkjchddidpjjmaaDoor
open Go.ChangeShapes Go.WideShapes Go.ChangeAt Go.RowKit

def laid : List (String × DataW Unit) := [("errors.errorType", Rows.laid_errors_errorType)]
theorem Tryd.et : Tryd.prog.globalNamed "errors.errorType" = some 0 := by kernel_rfl
theorem Tryd.rt : (Tryd.prog.cutTypes.find? (·.1 == "internal/reflectlite.rtype")).map (·.2) = some 153 := by kernel_rfl
theorem Tryd.oneRow : ((List.range 195).filter fun t => Tryd.prog.rowNamed t [101, 114, 114, 111, 114]) = [28] := by kernel_rfl
theorem Tryd.sizeTypes : Tryd.prog.types.size = 195 := by kernel_rfl

theorem handle_of_laid {W : World} (h : laidMetH Tryd.prog laid W) : Handle W := by
  have h' : laidMet Tryd.prog [] W ∧ handlesMet Tryd.prog laid W := h
  obtain ⟨name, u, ty, e1, e2, e3, e4, e5⟩ := h'.2 _ (List.mem_singleton.2 rfl)
  have en : name = [101, 114, 114, 111, 114] := (Option.some.inj e1).symm
  subst en
  obtain rfl := Option.some.inj (Tryd.rt.symm.trans e2)
  have hm : ty ∈ (List.range 195).filter fun t => Tryd.prog.rowNamed t [101, 114, 114, 111, 114] := List.mem_filter.2 ⟨List.mem_range.2 (by rw [← Tryd.sizeTypes]; exact e3), e4⟩
  rw [Tryd.oneRow] at hm
  obtain rfl := List.mem_singleton.1 hm
  have hh : typeHandle Tryd.prog 28 = .pointer (some ⟨1, 28, none⟩) := by kernel_rfl
  rw [hh] at e5
  have := World.var?_cell Tryd.et e5 0
  unfold Handle
  simpa using this

/-- A world that meets the condition: the settled one, the variable's cell laid. -/
noncomputable def laidWorld (os : Os) : World :=
  let w0 := World.holding Tryd.prog os ⟨#[], #[], []⟩
  { w0 with heap := w0.heap.modify 0 fun
      | .cells _ t frozen => .cells #[.iface 153 (.agg #[.pointer (some ⟨1, 28, none⟩)])] t frozen
      | o => o }
theorem laidWorld_met (os : Os) (args : Array Value) : laidMetH Tryd.prog laid ((laidWorld os).forCall (fun _ _ => 0) ⟨#[], args, []⟩).memory :=
  laidMetH_of_parts (laidMet_nil _ _) (by kernel_rfl)
theorem vars_nil {H : Type} {enc : TypeId × Value → H} {W : World} {gs : List (DataW H)} {q : List MemPlace} (hV : DataW.TrodVars enc Tryd.prog W (fun _ => true) [] gs q) : gs = [] ∧ q = [] := by
  cases gs with
  | nil => exact ⟨rfl, hV⟩
  | cons g r => exact absurd hV (by intro h; cases h)
end Go.Proofs.YtkjchddidpjjmaaDoor
/- What an argument is, once it is read: an address. Conditions: as each lemma states them. -/
namespace Go.Proofs.YtkjchddidpjjmaaDoor
open Go.ChangeShapes Go.WideShapes Go.ChangeAt Go.RowKit

def Six.Is (s : Six) : Prop := ∀ k, IsInt (s.l.getD k 0)

section
variable {H : Type} {enc : TypeId × Value → H} {W : World}

theorem open_cell_int {n : Nat} {c : Value} {y : Option (DataW H × List MemPlace)} (hy : y.isSome = true) (h : DataW.trod enc Tryd.prog W 0 (fun _ => true) true n 3 [c] = y) : ∃ x, c = .int .i64 x ∧ IsInt x := by
  obtain ⟨y, rfl⟩ := Option.isSome_iff_exists.1 hy
  obtain ⟨x, hx, _, hw⟩ := DataW.trod_int Tryd.underlying3 h
  exact ⟨x, by simpa using hx, wf_i64 hw⟩
theorem isSome_at {α : Type} {xs : List α} {n j : Nat} (h : xs.length = n) (hj : j < n) : (xs[j]?).isSome = true := by
  rw [List.getElem?_eq_getElem (by omega)]; rfl

theorem Tryd.cellsInt : Tryd.prog.cellsOf 3 = 1 := by kernel_rfl
theorem Tryd.cellsSix : Tryd.prog.cellsOf 23 = 8 := by kernel_rfl

set_option maxRecDepth 100000 in
theorem open_cells_six {n : Nat} {cs : List Value} {y : Option (DataW H × List MemPlace)} (hy : y.isSome = true) (h : DataW.trod enc Tryd.prog W 0 (fun _ => true) true n 23 cs = y) : ∃ s : Six, cs = s.cells.toList ∧ s.Is := by
  obtain ⟨y, rfl⟩ := Option.isSome_iff_exists.1 hy
  obtain ⟨xs, m, _, _, hl, hlen, hg⟩ := DataW.trod_array Tryd.underlying23 h
  match cs, hl.trans Tryd.cellsSix with
  | [c0, c1, c2, c3, c4, c5, c6, c7], _ =>
    obtain ⟨x0, rfl, i0⟩ := open_cell_int (isSome_at (j := 0) hlen (by omega)) (by simpa [Tryd.cellsInt] using hg 0 (by omega))
    obtain ⟨x1, rfl, i1⟩ := open_cell_int (isSome_at (j := 1) hlen (by omega)) (by simpa [Tryd.cellsInt] using hg 1 (by omega))
    obtain ⟨x2, rfl, i2⟩ := open_cell_int (isSome_at (j := 2) hlen (by omega)) (by simpa [Tryd.cellsInt] using hg 2 (by omega))
    obtain ⟨x3, rfl, i3⟩ := open_cell_int (isSome_at (j := 3) hlen (by omega)) (by simpa [Tryd.cellsInt] using hg 3 (by omega))
    obtain ⟨x4, rfl, i4⟩ := open_cell_int (isSome_at (j := 4) hlen (by omega)) (by simpa [Tryd.cellsInt] using hg 4 (by omega))
    obtain ⟨x5, rfl, i5⟩ := open_cell_int (isSome_at (j := 5) hlen (by omega)) (by simpa [Tryd.cellsInt] using hg 5 (by omega))
    obtain ⟨x6, rfl, i6⟩ := open_cell_int (isSome_at (j := 6) hlen (by omega)) (by simpa [Tryd.cellsInt] using hg 6 (by omega))
    obtain ⟨x7, rfl, i7⟩ := open_cell_int (isSome_at (j := 7) hlen (by omega)) (by simpa [Tryd.cellsInt] using hg 7 (by omega))
    refine ⟨⟨x0, x1, x2, x3, x4, x5, x6, x7⟩, rfl, fun k => ?_⟩
    match k with
    | 0 => exact i0
    | 1 => exact i1
    | 2 => exact i2
    | 3 => exact i3
    | 4 => exact i4
    | 5 => exact i5
    | 6 => exact i6
    | 7 => exact i7
    | k + 8 => simp [Six.l, IsInt]

set_option maxRecDepth 100000 in
/-- An address that came in. -/
theorem open_six {v : Value} {d : DataW H} {p : List MemPlace} {base : Nat} (hv : Value.okWide Tryd.prog W .any base 23 v) (h : DataW.Trod enc Tryd.prog W 0 (fun _ => true) true 23 v d p) : ∃ s : Six, v = s.v ∧ s.Is := by
  obtain ⟨fuel, hf⟩ := h
  obtain ⟨s, hs, hi⟩ := open_cells_six rfl hf
  simp only [Value.okWide, Tryd.underlying23] at hv
  obtain ⟨cs, rfl, _⟩ := hv
  refine ⟨s, ?_, hi⟩
  have : cs.toList = s.cells.toList := by simpa [Value.cells] using hs
  rw [Array.toList_inj.1 this]

end
end Go.Proofs.YtkjchddidpjjmaaDoor
/- What an argument that is a struct is, once it is read: each number and slice in it. Conditions: as each lemma states them. -/
namespace Go.Proofs.YtkjchddidpjjmaaDoor
open Go.ChangeShapes Go.WideShapes Go.ChangeAt Go.RowKit

section
variable {H : Type} {enc : TypeId × Value → H} {W : World}

theorem open_field_int {n : Nat} {t : TypeId} (ht : Tryd.prog.underlying t = some (.int .i64)) {c : Value} {y : Option (DataW H × List MemPlace)} (hy : y.isSome = true) (h : DataW.trod enc Tryd.prog W 0 (fun _ => true) true n t [c] = y) : ∃ x, c = .int .i64 x ∧ IsInt x := by
  obtain ⟨y, rfl⟩ := Option.isSome_iff_exists.1 hy
  obtain ⟨x, hx, _, hw⟩ := DataW.trod_int ht h
  exact ⟨x, by simpa using hx, wf_i64 hw⟩
theorem open_field_bytes {n : Nat} {c : Value} {y : Option (DataW H × List MemPlace)} (hy : y.isSome = true) (h : DataW.trod enc Tryd.prog W 0 (fun _ => true) true n 40 [c] = y) : ∃ a l k xs, c = .slice a l k ∧ IsBytes W a l k xs ∧ (a = none → k = 0) := by
  obtain ⟨y, rfl⟩ := Option.isSome_iff_exists.1 hy
  rcases open_ints Tryd.underlying40 Tryd.underlying5 (by kernel_rfl) h with ⟨hcs, _⟩ | ⟨x, l, c', zs, hcs, _, hl, hm, hz, _, hcell, hwz⟩
  · obtain rfl : c = .slice none 0 0 := by simpa using hcs
    exact ⟨none, 0, 0, [], rfl, ⟨Ints.nil, Pl.IsB.nil, Nat.le_refl _, Nat.zero_le _⟩, fun _ => rfl⟩
  · obtain rfl : c = .slice (some x) l c' := by simpa using hcs
    exact ⟨some x, l, c', zs.take l, rfl, ⟨ints_of_cells hl (by simpa using hz) hcell, fun y hy => wf_u8 (hwz y (List.mem_of_mem_take hy)), hl, hm⟩, fun h => by cases h⟩

theorem isSome_of_len {α : Type} {xs : List α} {n j : Nat} (h : xs.length = n) (hj : j < n) : (xs[j]?).isSome = true := by
  rw [List.getElem?_eq_getElem (by omega)]; rfl

set_option maxRecDepth 100000 in
/-- A packet of fours that came in. -/
theorem open_pack4 {v : Value} {d : DataW H} {p : List MemPlace} {base : Nat} (hv : Value.okWide Tryd.prog W .any base 74 v) (h : DataW.Trod enc Tryd.prog W 0 (fun _ => true) true 74 v d p) :
    ∃ s d t k i a l c xs, v = pk4 s d t k i (.slice a l c) ∧ (IsInt s ∧ IsInt d ∧ IsInt t ∧ IsInt k ∧ IsInt i) ∧ IsBytes W a l c xs ∧ (a = none → c = 0) := by
  obtain ⟨cs, rfl, hsz⟩ := okWide_struct Tryd.underlying74 hv
  obtain ⟨l⟩ := cs
  have hC : Tryd.prog.cellsOf 74 = 6 := by kernel_rfl
  have hI : Tryd.prog.cellsOf 3 = 1 := by kernel_rfl
  have hB : Tryd.prog.cellsOf 40 = 1 := by kernel_rfl
  match l, hsz.trans hC with
  | [c0, c1, c2, c3, c4, c5], _ =>
    obtain ⟨fuel, hf⟩ := h
    obtain ⟨xs, n, _, _, _, hlen, hg⟩ := DataW.trod_struct Tryd.underlying74 hf
    have e0 : DataW.trod enc Tryd.prog W 0 (fun _ => true) true n 3 [c0] = xs[0]? := by simpa [Value.cells, hI] using hg 0 _ rfl
    have e1 : DataW.trod enc Tryd.prog W 0 (fun _ => true) true n 3 [c1] = xs[1]? := by simpa [Value.cells, hI] using hg 1 _ rfl
    have e2 : DataW.trod enc Tryd.prog W 0 (fun _ => true) true n 3 [c2] = xs[2]? := by simpa [Value.cells, hI] using hg 2 _ rfl
    have e3 : DataW.trod enc Tryd.prog W 0 (fun _ => true) true n 3 [c3] = xs[3]? := by simpa [Value.cells, hI] using hg 3 _ rfl
    have e4 : DataW.trod enc Tryd.prog W 0 (fun _ => true) true n 3 [c4] = xs[4]? := by simpa [Value.cells, hI] using hg 4 _ rfl
    have e5 : DataW.trod enc Tryd.prog W 0 (fun _ => true) true n 40 [c5] = xs[5]? := by simpa [Value.cells, hB] using hg 5 _ rfl
    obtain ⟨x0, rfl, i0⟩ := open_field_int Tryd.underlying3 (isSome_of_len hlen (by simp)) e0
    obtain ⟨x1, rfl, i1⟩ := open_field_int Tryd.underlying3 (isSome_of_len hlen (by simp)) e1
    obtain ⟨x2, rfl, i2⟩ := open_field_int Tryd.underlying3 (isSome_of_len hlen (by simp)) e2
    obtain ⟨x3, rfl, i3⟩ := open_field_int Tryd.underlying3 (isSome_of_len hlen (by simp)) e3
    obtain ⟨x4, rfl, i4⟩ := open_field_int Tryd.underlying3 (isSome_of_len hlen (by simp)) e4
    obtain ⟨a, m, k, ys, rfl, hy, hn⟩ := open_field_bytes (isSome_of_len hlen (by simp)) e5
    exact ⟨x0, x1, x2, x3, x4, a, m, k, ys, rfl, ⟨i0, i1, i2, i3, i4⟩, hy, hn⟩
end
end Go.Proofs.YtkjchddidpjjmaaDoor
/- What an argument is, once it is read: a packet of sixes. Conditions: as each lemma states them. -/
namespace Go.Proofs.YtkjchddidpjjmaaDoor
open Go.ChangeShapes Go.WideShapes Go.ChangeAt Go.RowKit
/-- A packet of sixes that came in. -/
def IsP6 (w : World) (p : P6) (a : Option Addr) (n c : Nat) (xs : List Int) : Prop := IsBytes w a n c xs ∧ (a = none → c = 0) ∧ p.src.Is ∧ p.dst.Is ∧ IsInt p.hop ∧ IsInt p.kind
section
variable {H : Type} {enc : TypeId × Value → H} {W : World}
theorem Tryd.cellsP6 : Tryd.prog.cellsOf 72 = 19 := by kernel_rfl
theorem Tryd.cellsB6 : Tryd.prog.cellsOf 40 = 1 := by kernel_rfl
set_option maxRecDepth 100000 in
theorem open_pack6 {v : Value} {d : DataW H} {p : List MemPlace} {base : Nat} (hv : Value.okWide Tryd.prog W .any base 72 v) (h : DataW.Trod enc Tryd.prog W 0 (fun _ => true) true 72 v d p) :
    ∃ (q : P6) (a : Option Addr) (n c : Nat) (xs : List Int), v = q.v (.slice a n c) ∧ IsP6 W q a n c xs := by
  obtain ⟨cs, rfl, hsz⟩ := okWide_struct Tryd.underlying72 hv
  obtain ⟨l⟩ := cs
  match l, hsz.trans Tryd.cellsP6 with
  | [c0, c1, c2, c3, c4, c5, c6, c7, c8, c9, c10, c11, c12, c13, c14, c15, c16, c17, c18], _ =>
    obtain ⟨fuel, hf⟩ := h
    obtain ⟨xs, m, _, _, _, hlen, hg⟩ := DataW.trod_struct Tryd.underlying72 hf
    obtain ⟨s0, h0, i0⟩ := open_cells_six (isSome_at (j := 0) hlen (by simp)) (by simpa [Value.cells, Tryd.cellsSix] using hg 0 _ rfl)
    obtain ⟨s1, h1, i1⟩ := open_cells_six (isSome_at (j := 1) hlen (by simp)) (by simpa [Value.cells, Tryd.cellsSix] using hg 1 _ rfl)
    obtain ⟨x2, rfl, i2⟩ := open_cell_int (isSome_at (j := 2) hlen (by simp)) (by simpa [Value.cells, Tryd.cellsInt] using hg 2 _ rfl)
    obtain ⟨x3, rfl, i3⟩ := open_cell_int (isSome_at (j := 3) hlen (by simp)) (by simpa [Value.cells, Tryd.cellsInt] using hg 3 _ rfl)
    obtain ⟨a, n, k, ys, rfl, hy, hn⟩ := open_field_bytes (isSome_at (j := 4) hlen (by simp)) (by simpa [Value.cells, Tryd.cellsB6] using hg 4 _ rfl)
    refine ⟨⟨s0, s1, x2, x3⟩, a, n, k, ys, ?_, hy, hn, i0, i1, i2, i3⟩
    have e0 : [c0, c1, c2, c3, c4, c5, c6, c7] = s0.cells.toList := h0
    have e1 : [c8, c9, c10, c11, c12, c13, c14, c15] = s1.cells.toList := h1
    simp only [Six.cells, List.cons.injEq, and_true] at e0 e1
    obtain ⟨rfl, rfl, rfl, rfl, rfl, rfl, rfl, rfl⟩ := e0
    obtain ⟨rfl, rfl, rfl, rfl, rfl, rfl, rfl, rfl⟩ := e1
    rfl
end
end Go.Proofs.YtkjchddidpjjmaaDoor
/- seg.Decode and the document's SegOf of any bytes, any kind. Conditions: as each theorem states them. -/
namespace Go.Proofs.YtkjchddidpjjmaaDoor
open Go.RowKit
theorem sdecode_any (k : Int) (a : Option Addr) (n c : Nat) (xs : List Int) (over : Int) (w : World) (hr : Ints .u8 w a n xs) (hb : Pl.IsB xs) (hnc : n ≤ c) (hc : a = none → c = 0) :
    Calls Tryd.prog 34 #[.int .i64 k, .slice a n c, .int .i64 over] w (DecGot k xs over w) := by
  by_cases hk : k = 6 ∨ k = 17
  case neg => exact sdecode_bad k a n c xs over w (.inl hk)
  by_cases ho : Pl.Word over
  case neg => exact sdecode_bad k a n c xs over w (.inr ho)
  rcases hk with rfl | rfl
  · by_cases h0 : 20 ≤ n ∧ n ≤ 320
    · exact sdecode_core6 a n c xs over w hr hb hnc hc ho h0.1 h0.2
    · exact sdecode_short6 a n c xs over w hr ho (by omega)
  · by_cases h0 : 8 ≤ n ∧ n ≤ 308
    · exact sdecode_core17 a n c xs over w hr hb hnc hc ho h0.1 h0.2
    · exact sdecode_short17 a n c xs over w hr ho (by omega)
theorem rsegOf_any (k : Int) (a : Option Addr) (n c : Nat) (xs : List Int) (over : Int) (w : World) (hr : Ints .u8 w a n xs) (hb : Pl.IsB xs) (hnc : n ≤ c) (hc : a = none → c = 0) :
    Calls Tryd.prog 33 #[.int .i64 k, .slice a n c, .int .i64 over] w (RDecGot k xs over w) := by
  by_cases hk : k = 6 ∨ k = 17
  case neg => exact rsegOf_bad k a n c xs over w (.inl hk)
  by_cases ho : Pl.Word over
  case neg => exact rsegOf_bad k a n c xs over w (.inr ho)
  rcases hk with rfl | rfl
  · by_cases h0 : 20 ≤ n ∧ n ≤ 320
    · exact rsegOf_core6 a n c xs over w hr hb hnc hc ho h0.1 h0.2
    · exact rsegOf_short6 a n c xs over w hr ho (by omega)
  · by_cases h0 : 8 ≤ n ∧ n ≤ 308
    · exact rsegOf_core17 a n c xs over w hr hb hnc hc ho h0.1 h0.2
    · exact rsegOf_short17 a n c xs over w hr ho (by omega)
/-- Bytes, when another block is written anew. -/
theorem Ints.keepRow {k : IntKind} {w : World} {a : Option Addr} {n : Nat} {xs : List Int} (h : Ints k w a n xs) (g : Nat) (cs : Array Value) (hg : 0 < n → ∀ p, a = some p → p.block ≠ g) : Ints k (w.setRow g cs) a n xs := by
  by_cases hn : 0 < n
  · obtain ⟨b, off, rfl, hb, hc⟩ := h.at hn
    exact ⟨h.1, .inr ⟨b, off, rfl, fun i hi => (World.cell?_of_block (setRow_other w g b cs (hg hn _ rfl))).trans (hc i hi)⟩⟩
  · obtain rfl : n = 0 := by omega
    obtain rfl : xs = [] := List.length_eq_zero_iff.1 h.len
    exact Ints.nil
/-- A load whose run is known, in a region. -/
theorem exec_load {P : Program} {ρ : Operand → Value} {o : Oper} {w : World} {v : Value} {p : Addr} {ty : TypeId} {x : Operand} (ho : o.op = .load ty x) (hx : ρ x = .pointer (some p)) (h : (Instr.loadAt ty (.pointer (some p))).run P w = .ok v w) :
    (execOp ρ o).run P w = .ok (.value v) w := by
  unfold execOp
  simp only [ho, hx, Sem.run_bind, h, Result.andThen_ok, Sem.run_pure]
/-- The fault, as both tell it. -/
theorem chk_any (s : Sg) (a : Option Addr) (n c : Nat) (w : World) : Calls Tryd.prog 28 #[s.v (.slice a n c)] w fun e w' => e = .returned (erv (Pl.segFault s n)) ∧ Ext w w' :=
  (scheck_any s a n c w).mono fun _ _ ⟨h, q⟩ => ⟨h, q⟩
end Go.Proofs.YtkjchddidpjjmaaDoor
/- The contract of ip4.encode: the bytes of a packet that may be. Conditions: as each theorem states them. -/
namespace Go.Proofs.YtkjchddidpjjmaaDoor
open Go.RowKit

namespace Pl
/-- The head of a packet of fours, with a check. -/
def first4 (t k i n c : Int) : List Int := [69, 0, (20 + n) / 256, (20 + n) % 256, i / 256, i % 256, 64, 0, t, k, c / 256, c % 256]
def head4 (s d t k i n c : Int) : List Int := first4 t k i n c ++ four s ++ four d
def sum4 (s d t k i n : Int) : Int := 65535 - fold (raw 0 (head4 s d t k i n 0))
/-- A packet's bytes. -/
def enc4 (s d t k i : Int) (b : List Int) : List Int := head4 s d t k i b.length (sum4 s d t k i b.length) ++ b
theorem head4_isB {s d t k i n c : Int} (h : Ok4 s d t k i) (hn : 0 ≤ n ∧ n ≤ 320) (hc : 0 ≤ c ∧ c ≤ 65535) : IsB (head4 s d t k i n c) := by
  obtain ⟨⟨s0, s1⟩, ⟨d0, d1⟩, ⟨t0, t1⟩, ⟨k0, k1⟩, ⟨i0, i1⟩⟩ := h
  refine (IsB.append ?_ (four_isB s0 s1)).append (four_isB d0 d1)
  unfold first4
  repeat (first | exact .nil | refine .cons (by omega) (by omega) ?_)
theorem head4_length (s d t k i n c : Int) : (head4 s d t k i n c).length = 20 := rfl
theorem head4_set (s d t k i n c : Int) : ((head4 s d t k i n 0).set 10 (c / 256)).set 11 (c % 256) = head4 s d t k i n c := rfl
theorem sum4_bd (s d t k i n : Int) : 0 ≤ sum4 s d t k i n ∧ sum4 s d t k i n ≤ 65535 := by
  have h0 := fold_lo (raw 0 (head4 s d t k i n 0))
  have h1 := fold_hi (raw 0 (head4 s d t k i n 0))
  unfold sum4
  omega
theorem enc4_isB {s d t k i : Int} {b : List Int} (h : Ok4 s d t k i) (hb : IsB b) (hn : b.length ≤ 320) : IsB (enc4 s d t k i b) :=
  (head4_isB h (by omega) (sum4_bd ..)).append hb
theorem enc4_length (s d t k i : Int) (b : List Int) : (enc4 s d t k i b).length = 20 + b.length := by
  unfold enc4
  rw [List.length_append, head4_length]
end Pl

set_option maxRecDepth 100000 in
set_option maxHeartbeats 1600000 in
theorem encode4_any (s d t k i : Int) (a : Option Addr) (n c : Nat) (b : List Int) (w : World) (h : Pl.Ok4 s d t k i) (hn : n ≤ 320) (hr : Ints .u8 w a n b) :
    Calls Tryd.prog 88 #[pk4 s d t k i (.slice a n c)] w fun e w' => ∃ v, e = .returned v ∧ Own w' w.heap.size v (Pl.enc4 s d t k i b) ∧ Below w.heap.size w w' := by
  have hok := h
  obtain ⟨⟨s0, s1⟩, ⟨d0, d1⟩, ⟨t0, t1⟩, ⟨k0, k1⟩, ⟨i0, i1⟩⟩ := h
  have hl := hr.len
  have HL := Lib.hid hl
  have e2 : IntKind.u8.wrap (20 + (n : Int)) = (20 + (n : Int)) % 256 := by rw [IntKind.wrap_u8]
  have e3 : IntKind.u8.wrap i = i % 256 := by rw [IntKind.wrap_u8]
  clear hl
  unfold pk4
  go_enter Tryd.func88, Tryd.ntmps88
  go_wp2_with fail
  clear e2 e3
  have B1 : Below w.heap.size w ((w.alloc (.cells #[.int .i64 s, .int .i64 d, .int .i64 t, .int .i64 k, .int .i64 i, .slice a n c] 74)).alloc
      (.cells #[.int .u8 69, .int .u8 0, .int .u8 ((20 + ↑n) / 256), .int .u8 ((20 + ↑n) % 256), .int .u8 (i / 256), .int .u8 (i % 256), .int .u8 64, .int .u8 0, .int .u8 t, .int .u8 k, .int .u8 0, .int .u8 0] 5)) := by go_grown
  have q0 : ((w.alloc (.cells #[.int .i64 s, .int .i64 d, .int .i64 t, .int .i64 k, .int .i64 i, .slice a n c] 74)).alloc
      (.cells #[.int .u8 69, .int .u8 0, .int .u8 ((20 + ↑n) / 256), .int .u8 ((20 + ↑n) % 256), .int .u8 (i / 256), .int .u8 (i % 256), .int .u8 64, .int .u8 0, .int .u8 t, .int .u8 k, .int .u8 0, .int .u8 0] 5)).cell? ⟨w.heap.size, 0, none⟩ = some (.int .i64 s) := by simp [go_sem, World.cell?_alloc_past]
  have q1 : ((w.alloc (.cells #[.int .i64 s, .int .i64 d, .int .i64 t, .int .i64 k, .int .i64 i, .slice a n c] 74)).alloc
      (.cells #[.int .u8 69, .int .u8 0, .int .u8 ((20 + ↑n) / 256), .int .u8 ((20 + ↑n) % 256), .int .u8 (i / 256), .int .u8 (i % 256), .int .u8 64, .int .u8 0, .int .u8 t, .int .u8 k, .int .u8 0, .int .u8 0] 5)).cell? ⟨w.heap.size, 1, none⟩ = some (.int .i64 d) := by simp [go_sem, World.cell?_alloc_past]
  have q5 : ((w.alloc (.cells #[.int .i64 s, .int .i64 d, .int .i64 t, .int .i64 k, .int .i64 i, .slice a n c] 74)).alloc
      (.cells #[.int .u8 69, .int .u8 0, .int .u8 ((20 + ↑n) / 256), .int .u8 ((20 + ↑n) % 256), .int .u8 (i / 256), .int .u8 (i % 256), .int .u8 64, .int .u8 0, .int .u8 t, .int .u8 k, .int .u8 0, .int .u8 0] 5)).cell? ⟨w.heap.size, 5, none⟩ = some (.slice a n c) := by simp [go_sem, World.cell?_alloc_past]
  have o1 := Own.built (w.alloc (.cells #[.int .i64 s, .int .i64 d, .int .i64 t, .int .i64 k, .int .i64 i, .slice a n c] 74)) (w.heap.size + 1)
      #[.int .u8 69, .int .u8 0, .int .u8 ((20 + ↑n) / 256), .int .u8 ((20 + ↑n) % 256), .int .u8 (i / 256), .int .u8 (i % 256), .int .u8 64, .int .u8 0, .int .u8 t, .int .u8 k, .int .u8 0, .int .u8 0] (Pl.first4 t k i n 0) 12 rfl rfl (by simp) (by simp [Pl.first4])
  have hsz : ((w.alloc (.cells #[.int .i64 s, .int .i64 d, .int .i64 t, .int .i64 k, .int .i64 i, .slice a n c] 74)).alloc
      (.cells #[.int .u8 69, .int .u8 0, .int .u8 ((20 + ↑n) / 256), .int .u8 ((20 + ↑n) % 256), .int .u8 (i / 256), .int .u8 (i % 256), .int .u8 64, .int .u8 0, .int .u8 t, .int .u8 k, .int .u8 0, .int .u8 0] 5)).heap.size = w.heap.size + 2 := by simp
  simp only [World.size_alloc] at o1
  generalize (w.alloc (.cells #[.int .i64 s, .int .i64 d, .int .i64 t, .int .i64 k, .int .i64 i, .slice a n c] 74)).alloc _ = W1 at *
  have hsz1 : w.heap.size + 2 ≤ W1.heap.size := by omega
  clear hsz
  go_region_held3 (fun w' => w'.cell? ⟨w.heap.size, 0, none⟩ = some (.int .i64 s) ∧ w'.cell? ⟨w.heap.size, 1, none⟩ = some (.int .i64 d))
    (first | go_keep | (refine ⟨?_, ?_⟩ <;> go_keep) | (go_split_ands; refine ⟨?_, ?_⟩ <;> go_keep) | (go_split_ands; refine ⟨?_, ?_⟩ <;> (rw [b2.cell (by simp; omega)]; first | assumption | simp [*])) | (go_split_ands; refine ⟨?_, ?_⟩ <;> (rw [b3.cell (by simp)]; assumption)) | (go_split_ands; refine ⟨?_, ?_⟩ <;> (rw [b4.cell (by have h2 := b2.size; have h3 := b3.size; simp at h2; simp; omega)]; assumption)) | (go_split_ands; refine ⟨?_, ?_⟩ <;> (rw [b5.cell (by simp)]; assumption)))
    (first
      | (go_at_call 54; (with_reducible refine (raw4_any s _ s0 s1).mono ?_); rintro e W2 ⟨v2, rfl, o2, b2⟩; obtain ⟨a2, n2, c2, rfl, l2, r2⟩ := o2.read; obtain rfl : 4 = n2 := r2.len)
      | (go_at_call 54; (with_reducible refine (raw4_any d _ d0 d1).mono ?_); rintro e W4 ⟨v4, rfl, o4, b4⟩; obtain ⟨a4, n4, c4, rfl, l4, r4⟩ := o4.read; obtain rfl : 4 = n4 := r4.len)
      | (refine step_app (by rfl) (Operand.tmp 29) (Operand.tmp 32) (by rfl) (w.heap.size + 1) _ (Pl.first4 t k i n 0) (by rfl) ?_ _ _ _ (Pl.four s) (by rfl) ?_ ?_ ?_ ?_; go_must ((exact o1.drew.below b2 o1.drew.lt')); go_must (exact r2); go_must ((simp [Pl.first4])); go_must ((have := b2.size; simp at this; omega)); intro v3 W3 o3 b3)
      | (refine step_app (by rfl) (Operand.tmp 33) (Operand.tmp 36) (by rfl) (w.heap.size + 1) _ (Pl.first4 t k i n 0 ++ Pl.four s) (by rfl) ?_ _ _ _ (Pl.four d) (by rfl) ?_ ?_ ?_ ?_; go_must (exact o3.below b4 o3.lt'); go_must (exact r4); go_must ((simp [Pl.first4, Pl.four])); go_must ((have h2 := b2.size; have h3 := b3.size; have h4 := b4.size; simp at h2; omega)); intro v5 W5 o5 b5))
  have hs2 := b2.size
  have hs3 := b3.size
  have hs4 := b4.size
  simp only [World.size_drew] at hs2
  have B5 : Below w.heap.size w W5 := (((B1.drew.trans (b2.mono (by simp; omega))).trans (b3.mono (by omega))).trans (b4.mono (by omega))).trans (b5.mono (by omega))
  have q5' : W5.cell? ⟨w.heap.size, 5, none⟩ = some (.slice a n c) := by
    rw [b5.cell (by simp), b4.cell (by simp; omega), b3.cell (by simp), b2.cell (by simp; omega)]
    simpa using q5
  have HH : Pl.first4 t k i n 0 ++ Pl.four s ++ Pl.four d = Pl.head4 s d t k i n 0 := rfl
  rw [HH] at o5
  clear HH q0 q1 q5 b2 b3 b4 r2 r4 o1 o2 o3 o4 hs2 hs3 hs4 l2 l4
  have hB := Pl.head4_isB hok (n := (n : Int)) (c := 0) (by omega) (by omega)
  have hsum := Pl.sum4_bd s d t k i n
  obtain ⟨gg, nn, cc, rfl, hnn, hcc, hg0, hg1, hcell, hfr⟩ := o5.shape (by rw [Pl.head4_length]; omega)
  obtain rfl : 20 = nn := hnn
  have hc10 := hcell 10 (by omega)
  have hc11 := hcell 11 (by omega)
  have hf10 := hfr 10
  have hf11 := hfr 11
  clear hcell hfr
  obtain ⟨pa, na, ca, hpa, _, r5⟩ := o5.read
  cases hpa
  go_wp2_with fail
  with_reducible refine (raw_any _ _ _ _ _ r5 hB (by omega)).mono ?_
  rintro e w' ⟨rfl, rfl⟩
  have hC : Pl.fold (Pl.raw 0 (Pl.head4 s d t k i n 0)) = 65535 - Pl.sum4 s d t k i n := by unfold Pl.sum4; omega
  rw [hC]
  clear hC
  have e9 : IntKind.u8.wrap (Pl.sum4 s d t k i n) = Pl.sum4 s d t k i n % 256 := by rw [IntKind.wrap_u8]
  generalize hcs : Pl.sum4 s d t k i n = C at *
  have HCS := Lib.hid hcs
  clear hcs
  obtain ⟨c0, c1⟩ := hsum
  have e10 : (65535 - (65535 - C)) = C := by omega
  have e8 : IntKind.i64.wrap (65535 - (65535 - C)) = C := by rw [e10]; exact IntWalk.i64_in _ (by omega)
  go_wp2_with (at_builtin; refine Halt.out ?_)
  refine Halt.mk ?_
  have o6 := (o5.store 10 (C / 256)).store 11 (C % 256)
  rw [Pl.head4_set] at o6
  have B6 : Below w.heap.size w ((W5.setCell ⟨gg, 10, none⟩ (.int .u8 (C / 256))).setCell ⟨gg, 11, none⟩ (.int .u8 (C % 256))) :=
    (B5.setCell (p := ⟨gg, 10, none⟩) (by show w.heap.size ≤ gg; omega) _).setCell (p := ⟨gg, 11, none⟩) (by show w.heap.size ≤ gg; omega) _
  have hsz6 : w.heap.size + 1 ≤ ((W5.setCell ⟨gg, 10, none⟩ (.int .u8 (C / 256))).setCell ⟨gg, 11, none⟩ (.int .u8 (C % 256))).heap.size := by simp; omega
  refine app rfl _ _ rfl (w.heap.size + 1) _ _ rfl o6 a n c b rfl (hr.below B6) (by rw [Pl.head4_length]; omega) hsz6 ?_
  intro v7 W7 o7 b7
  go_wp2_with fail
  go_ret
  refine ⟨v7, rfl, ?_, B6.trans (b7.mono (by omega))⟩
  unfold Pl.enc4
  rw [HL.out, HCS.out]
  exact o7.mono (by omega)
end Go.Proofs.YtkjchddidpjjmaaDoor
/- The contracts of ip4.Encode, ip4.four and ip4.Decode. Conditions: as each theorem states them. -/
namespace Go.Proofs.YtkjchddidpjjmaaDoor
open Go.RowKit

theorem encode4_ok (s d t k i : Int) (a : Option Addr) (n c : Nat) (b : List Int) (w : World) (h : Pl.Ok4 s d t k i) (hn : n ≤ 320) (hr : Ints .u8 w a n b) :
    Calls Tryd.prog 44 #[pk4 s d t k i (.slice a n c)] w fun e w' => ∃ v, e = .returned (.tuple #[v, .nilIface]) ∧ Own w' w.heap.size v (Pl.enc4 s d t k i b) ∧ Below w.heap.size w w' := by
  unfold pk4
  go_enter Tryd.func44, Tryd.ntmps44
  go_wp2_with fail
  have B1 : Below w.heap.size w (w.alloc (.cells #[.int .i64 s, .int .i64 d, .int .i64 t, .int .i64 k, .int .i64 i, .slice a n c] 74)) := by go_grown
  have q : ∀ j u, (#[Value.int .i64 s, .int .i64 d, .int .i64 t, .int .i64 k, .int .i64 i, .slice a n c] : Array Value)[j]? = some u → (w.alloc (.cells #[.int .i64 s, .int .i64 d, .int .i64 t, .int .i64 k, .int .i64 i, .slice a n c] 74)).cell? ⟨w.heap.size, j, none⟩ = some u := fun j u hu => by
    rw [World.cell?_alloc_mark]; exact hu
  have q0 := q 0 _ rfl
  have q1 := q 1 _ rfl
  have q2 := q 2 _ rfl
  have q3 := q 3 _ rfl
  have q4 := q 4 _ rfl
  have q5 := q 5 _ rfl
  have hsz : w.heap.size < (w.alloc (.cells #[.int .i64 s, .int .i64 d, .int .i64 t, .int .i64 k, .int .i64 i, .slice a n c] 74)).heap.size := by simp
  clear q
  generalize w.alloc (.cells #[.int .i64 s, .int .i64 d, .int .i64 t, .int .i64 k, .int .i64 i, .slice a n c] 74) = W1 at *
  refine (check4_ok s d t k i a n c W1 h hn).mono ?_
  rintro e W2 ⟨rfl, b2⟩
  have B2 := B1.trans (b2.mono B1.size)
  have r0 := q0.symm.trans (b2.cell (p := ⟨w.heap.size, 0, none⟩) hsz).symm
  have r1 := q1.symm.trans (b2.cell (p := ⟨w.heap.size, 1, none⟩) hsz).symm
  have r2 := q2.symm.trans (b2.cell (p := ⟨w.heap.size, 2, none⟩) hsz).symm
  have r3 := q3.symm.trans (b2.cell (p := ⟨w.heap.size, 3, none⟩) hsz).symm
  have r4 := q4.symm.trans (b2.cell (p := ⟨w.heap.size, 4, none⟩) hsz).symm
  have r5 := q5.symm.trans (b2.cell (p := ⟨w.heap.size, 5, none⟩) hsz).symm
  clear q0 q1 q2 q3 q4 q5
  replace r0 := r0.symm
  replace r1 := r1.symm
  replace r2 := r2.symm
  replace r3 := r3.symm
  replace r4 := r4.symm
  replace r5 := r5.symm
  go_wp2_with fail
  refine (encode4_any s d t k i a n c b W2 h hn (hr.below B2)).mono ?_
  rintro e W3 ⟨v, rfl, o3, b3⟩
  go_wp2_with fail
  go_ret2
  exact ⟨v, rfl, o3.mono B2.size, B2.trans (b3.mono B2.size)⟩

set_option maxHeartbeats 800000 in
theorem four_any (g o n c : Nat) (x0 x1 x2 x3 : Int) (w : World) (hn : 4 ≤ n) (h0 : w.cell? ⟨g, o, none⟩ = some (.int .u8 x0)) (h1 : w.cell? ⟨g, o + 1, none⟩ = some (.int .u8 x1))
    (h2 : w.cell? ⟨g, o + 2, none⟩ = some (.int .u8 x2)) (h3 : w.cell? ⟨g, o + 3, none⟩ = some (.int .u8 x3)) (b0 : 0 ≤ x0 ∧ x0 ≤ 255) (b1 : 0 ≤ x1 ∧ x1 ≤ 255) (b2 : 0 ≤ x2 ∧ x2 ≤ 255) (b3 : 0 ≤ x3 ∧ x3 ≤ 255) :
    Calls Tryd.prog 89 #[.slice (some ⟨g, o, none⟩) n c] w fun e w' => e = .returned (.int .i64 (x0 * 16777216 + x1 * 65536 + x2 * 256 + x3)) ∧ ∃ q, w' = w.drewN q := by
  obtain ⟨b00, b01⟩ := b0
  obtain ⟨b10, b11⟩ := b1
  obtain ⟨b20, b21⟩ := b2
  obtain ⟨b30, b31⟩ := b3
  have hn0 : (0 : Int) < (n : Int) := by omega
  have hn1 : (1 : Int) < (n : Int) := by omega
  have hn2 : (2 : Int) < (n : Int) := by omega
  have hn3 : (3 : Int) < (n : Int) := by omega
  go_enter Tryd.func89, Tryd.ntmps89
  go_wp2_with fail
  go_quiet (fail)
  go_wp2
  go_ret
  refine ⟨ret_int ?_, nq, rfl⟩
  rw [or24 (x := x0 * 16777216) (y := x1 * 65536) (by omega) (by omega) (by omega) (by omega) (by omega), or16 (x := x0 * 16777216 + x1 * 65536) (y := x2 * 256) (by omega) (by omega) (by omega) (by omega) (by omega),
    or8 (x := x0 * 16777216 + x1 * 65536 + x2 * 256) (by omega) (by omega) (by omega) (by omega) (by omega)]

namespace Pl
/-- A number of two bytes, of four. -/
def at4 (l : List Int) (i : Nat) : Int := l.getD i 0 * 16777216 + l.getD (i + 1) 0 * 65536 + l.getD (i + 2) 0 * 256 + l.getD (i + 3) 0
theorem at2_bd {l : List Int} (h : IsB l) (i : Nat) : 0 ≤ at2 l i ∧ at2 l i ≤ 65535 := by
  have h0 := h.getD i
  have h1 := h.getD (i + 1)
  unfold at2
  omega
theorem at4_bd {l : List Int} (h : IsB l) (i : Nat) : 0 ≤ at4 l i ∧ at4 l i < 4294967296 := by
  have h0 := h.getD i
  have h1 := h.getD (i + 1)
  have h2 := h.getD (i + 2)
  have h3 := h.getD (i + 3)
  unfold at4
  omega
/-- What bytes may be, as a packet: written again. -/
def want4 (l : List Int) : List Int := enc4 (at4 l 12) (at4 l 16) (l.getD 8 0) (l.getD 9 0) (at2 l 4) (l.drop 20)
theorem ok4_of {l : List Int} (h : IsB l) : Ok4 (at4 l 12) (at4 l 16) (l.getD 8 0) (l.getD 9 0) (at2 l 4) := ⟨at4_bd h 12, at4_bd h 16, h.getD 8, h.getD 9, at2_bd h 4⟩
end Pl

namespace Pl
/-- Bytes with two of others at the place of the check. -/
def patch4 (l m : List Int) : List Int := l.take 10 ++ ((m.drop 10).take 2 ++ l.drop 12)
end Pl
/-- What Decode gives of bytes that are not too short or long, whose numbers are S D T K I. -/
def Dec4 (xs : List Int) (S D T K I : Int) (w : World) (e : Ending) (w' : World) : Prop :=
  (Pl.enc4 S D T K I (xs.drop 20) = xs → ∃ v, e = .returned (.tuple #[pk4 S D T K I v, .nilIface]) ∧ Own w' w.heap.size v (xs.drop 20)) ∧
  (Pl.enc4 S D T K I (xs.drop 20) ≠ xs → Pl.patch4 (Pl.enc4 S D T K I (xs.drop 20)) xs = xs → e = .returned (.tuple #[pk4 0 0 0 0 0 (.slice none 0 0), errv 6])) ∧
  (Pl.enc4 S D T K I (xs.drop 20) ≠ xs → Pl.patch4 (Pl.enc4 S D T K I (xs.drop 20)) xs ≠ xs → e = .returned (.tuple #[pk4 0 0 0 0 0 (.slice none 0 0), errv 5])) ∧
  Below w.heap.size w w'

theorem decode4_short (a : Option Addr) (n c : Nat) (w : World) (h : n < 20 ∨ 340 < n) :
    Calls Tryd.prog 45 #[.slice a n c] w fun e w' => e = .returned (.tuple #[pk4 0 0 0 0 0 (.slice none 0 0), errv 5]) ∧ Below w.heap.size w w' := by
  rcases h with h | h
  · go_enter Tryd.func45, Tryd.ntmps45
    go_wp2
    go_returns
    exact ⟨rfl, by go_grown⟩
  · have h' : ¬ n < 20 := by omega
    go_enter Tryd.func45, Tryd.ntmps45
    go_wp2
    go_returns
    exact ⟨rfl, by go_grown⟩

set_option maxHeartbeats 1600000 in
theorem decode4_core (b off n c : Nat) (xs : List Int) (w : World) (S D T K X4 X5 : Int) (hr : Ints .u8 w (some ⟨b, off, none⟩) n xs) (hbl : b < w.heap.size) (hnc : n ≤ c) (h0 : 20 ≤ n) (h1 : n ≤ 340)
    (hok : Pl.Ok4 S D T K (X4 * 256 + X5)) (hS : Pl.at4 xs 12 = S) (hD : Pl.at4 xs 16 = D) (hT : xs.getD 8 0 = T) (hK : xs.getD 9 0 = K) (hX4 : xs.getD 4 0 = X4) (hX5 : xs.getD 5 0 = X5) (hb : Pl.IsB xs) :
    Calls Tryd.prog 45 #[.slice (some ⟨b, off, none⟩) n c] w (Dec4 xs S D T K (X4 * 256 + X5) w) := by
  have HOK := Lib.hid hok
  obtain ⟨⟨s0, s1⟩, ⟨d0, d1⟩, ⟨t0, t1⟩, ⟨k0, k1⟩, ⟨j0, j1⟩⟩ := hok
  have hc := (hr.at (by omega))
  obtain ⟨b', off', hbo, _, hc⟩ := hc
  simp only [Option.some.injEq, Addr.mk.injEq, and_true] at hbo
  obtain ⟨rfl, rfl⟩ := hbo
  have p0 : (12 : Int) ≤ (n : Int) := by omega
  have p1 : (16 : Int) ≤ (n : Int) := by omega
  have x4 := hb.getD 4
  have x5 := hb.getD 5
  rw [hX4] at x4
  rw [hX5] at x5
  obtain ⟨x40, x41⟩ := x4
  obtain ⟨x50, x51⟩ := x5
  have eor : bits BinOp.or IntKind.i64 (X4 * 256) X5 = X4 * 256 + X5 := or8 (by omega) (by omega) (by omega) (by omega) (by omega)
  have ewT : IntKind.i64.wrap T = T := IntWalk.i64_in _ (by omega)
  have ewK : IntKind.i64.wrap K = K := IntWalk.i64_in _ (by omega)
  have ew4 : IntKind.i64.wrap X4 = X4 := IntWalk.i64_in _ (by omega)
  have ew5 : IntKind.i64.wrap X5 = X5 := IntWalk.i64_in _ (by omega)
  have ew45 : IntKind.i64.wrap (X4 * 256) = X4 * 256 := IntWalk.i64_in _ (by omega)
  have HR := Lib.hid hr
  have HS := Lib.hid hS
  have HD := Lib.hid hD
  have HT := Lib.hid hT
  have HK := Lib.hid hK
  have HX4 := Lib.hid hX4
  have HX5 := Lib.hid hX5
  have HB := Lib.hid hb
  have HC := Lib.hid hc
  clear hr hS hD hT hK hX4 hX5 hb hc
  go_enter Tryd.func45, Tryd.ntmps45
  go_upto_region 3 with fail
  have B1 : Below w.heap.size w (w.alloc (.cells #[.int .i64 0, .int .i64 0, .int .i64 0, .int .i64 0, .int .i64 0, .slice none 0 0] 74)) := by go_grown
  have hs1 : (w.alloc (.cells #[.int .i64 0, .int .i64 0, .int .i64 0, .int .i64 0, .int .i64 0, .slice none 0 0] 74)).heap.size = w.heap.size + 1 := by simp
  have hz1 : (w.alloc (.cells #[.int .i64 0, .int .i64 0, .int .i64 0, .int .i64 0, .int .i64 0, .slice none 0 0] 74)).heap[w.heap.size]? = some (.cells #[.int .i64 0, .int .i64 0, .int .i64 0, .int .i64 0, .int .i64 0, .slice none 0 0] 74) := heap_alloc_new w _
  generalize w.alloc (.cells #[.int .i64 0, .int .i64 0, .int .i64 0, .int .i64 0, .int .i64 0, .slice none 0 0] 74) = W1 at *
  have HZ1 := Lib.hid hz1
  have hc1 : ∀ i, i < n → W1.cell? ⟨b, off + i, none⟩ = some (.int .u8 (xs.getD i 0)) := fun i hi => by rw [B1.cell hbl]; exact HC.out i hi
  have c4 := hc1 4 (by omega)
  have c5 := hc1 5 (by omega)
  have c8 := hc1 8 (by omega)
  have c9 := hc1 9 (by omega)
  rw [HX4.out] at c4
  rw [HX5.out] at c5
  rw [HT.out] at c8
  rw [HK.out] at c9
  have F1 : ∀ (W : World), (Below (w.heap.size + 1) W1 W) → Calls Tryd.prog 89 #[.slice (some ⟨b, off + 12, none⟩) (n - 12) (c - 12)] W fun e w' => e = .returned (.int .i64 S) ∧ ∃ q, w' = W.drewN q := fun W hB => by
    have hs : ∀ o, W.cell? ⟨b, o, none⟩ = W1.cell? ⟨b, o, none⟩ := fun o => hB.cell (p := ⟨b, o, none⟩) (by show b < _; omega)
    rw [← HS.out]
    exact four_any b (off + 12) (n - 12) (c - 12) _ _ _ _ W (by omega) ((hs _).trans (hc1 12 (by omega))) ((hs _).trans (hc1 13 (by omega))) ((hs _).trans (hc1 14 (by omega))) ((hs _).trans (hc1 15 (by omega))) (HB.out.getD 12) (HB.out.getD 13) (HB.out.getD 14) (HB.out.getD 15)
  have F2 : ∀ (W : World), (Below (w.heap.size + 1) W1 W) → Calls Tryd.prog 89 #[.slice (some ⟨b, off + 16, none⟩) (n - 16) (c - 16)] W fun e w' => e = .returned (.int .i64 D) ∧ ∃ q, w' = W.drewN q := fun W hB => by
    have hs : ∀ o, W.cell? ⟨b, o, none⟩ = W1.cell? ⟨b, o, none⟩ := fun o => hB.cell (p := ⟨b, o, none⟩) (by show b < _; omega)
    rw [← HD.out]
    exact four_any b (off + 16) (n - 16) (c - 16) _ _ _ _ W (by omega) ((hs _).trans (hc1 16 (by omega))) ((hs _).trans (hc1 17 (by omega))) ((hs _).trans (hc1 18 (by omega))) ((hs _).trans (hc1 19 (by omega))) (HB.out.getD 16) (HB.out.getD 17) (HB.out.getD 18) (HB.out.getD 19)
  have n12 : ¬ c = 12 := by omega
  have n16 : ¬ c = 16 := by omega
  have nb : ¬ b = w.heap.size + 1 := by omega
  have nb' : ¬ w.heap.size + 1 = b := by omega
  have i4 : (4 : Int) < (n : Int) := by omega
  have i5 : (5 : Int) < (n : Int) := by omega
  have i8 : (8 : Int) < (n : Int) := by omega
  have i9 : (9 : Int) < (n : Int) := by omega
  have HC1 := Lib.hid hc1
  have HF1 := Lib.hid F1
  have HF2 := Lib.hid F2
  clear hc1 F1 F2 hz1
  go_cut [4] (fun s4 wx => s4 = .pointer (some ⟨w.heap.size + 1, 0, none⟩) ∧ Below (w.heap.size + 1) W1 wx ∧ wx.heap.size = w.heap.size + 2 ∧
    wx.cell? ⟨w.heap.size + 1, 0, none⟩ = some (.int .i64 S) ∧ wx.cell? ⟨w.heap.size + 1, 1, none⟩ = some (.int .i64 D) ∧ wx.cell? ⟨w.heap.size + 1, 2, none⟩ = some (.int .i64 T) ∧
    wx.cell? ⟨w.heap.size + 1, 3, none⟩ = some (.int .i64 K) ∧ wx.cell? ⟨w.heap.size + 1, 4, none⟩ = some (.int .i64 (X4 * 256 + X5)) ∧ wx.cell? ⟨w.heap.size + 1, 5, none⟩ = some (.slice none 0 0) ∧
    wx.frozen? ⟨w.heap.size + 1, 5, none⟩ = false)
  case first =>
    go_region_held3 (fun w' => w'.cell? ⟨b, off + 4, none⟩ = some (.int .u8 X4) ∧ w'.cell? ⟨b, off + 5, none⟩ = some (.int .u8 X5) ∧ w'.cell? ⟨b, off + 8, none⟩ = some (.int .u8 T) ∧ w'.cell? ⟨b, off + 9, none⟩ = some (.int .u8 K))
      (first | go_keep)
      (first
        | (go_at_call 89; (with_reducible refine (HF1.out _ (by repeat' (first | (with_reducible exact Below.refl _ _) | (with_reducible refine below_drewN ?_ _) | (with_reducible refine Below.drew ?_) | (with_reducible refine Below.alloc ?_ ?_ _) | go_size))).mono ?_); rintro e w' ⟨rfl, q1, rfl⟩)
        | (go_at_call 89; (with_reducible refine (HF2.out _ (by repeat' (first | (with_reducible exact Below.refl _ _) | (with_reducible refine below_drewN ?_ _) | (with_reducible refine Below.drew ?_) | (with_reducible refine Below.alloc ?_ ?_ _) | go_size))).mono ?_); rintro e w' ⟨rfl, q2, rfl⟩))
    all_goals
      go_wp2_with fail
      go_meet
      refine ⟨rfl, ?_, by simp [hs1], by simp [go_sem, hs1], by simp [go_sem, hs1], by simp [go_sem, hs1], by simp [go_sem, hs1], by simp [go_sem, hs1], by simp [go_sem, hs1], by simp [go_sem, hs1]⟩
      repeat' (first | (with_reducible exact Below.refl _ _) | (with_reducible refine below_drewN ?_ _) | (with_reducible refine Below.drew ?_) | (with_reducible refine Below.setCell ?_ ?_ _) | (with_reducible refine Below.alloc ?_ ?_ _) | go_size | (simp [hs1]; done))
  case rest =>
    obtain ⟨rfl, B2, hs2, z0, z1, z2, z3, z4, z5, zf⟩ := hcut
    have q0 : Below w.heap.size w wc := B1.trans (B2.mono (by omega))
    have hz2 : wc.heap[w.heap.size]? = some (.cells #[.int .i64 0, .int .i64 0, .int .i64 0, .int .i64 0, .int .i64 0, .slice none 0 0] 74) := by rw [B2.block _ (by omega)]; exact HZ1.out
    have HZ2 := Lib.hid hz2
    have i20 := ((HR.out).below q0).dropped 20 c h0 hnc
    have i00 := (HR.out).below q0
    have Hs2 := Lib.hid hs2
    clear hz2 hs2
    have kc' : ¬ c = 10 := by omega
    have kn : (12 : Int) ≤ (n : Int) := by omega
    have kcc : (12 : Int) ≤ (c : Int) := by omega
    rcases Nat.lt_or_ge 20 c with hc20 | hc20
    case' inl =>
      have e20 : ¬ c = 20 := by omega
      rw [if_neg e20] at i20
      go_wp2_with fail
      with_reducible refine (clone_any _ _ _ (xs.drop 20) wc i20 (fun h => by cases h) (by omega)).mono ?_
    case' inr =>
      obtain rfl : c = 20 := by omega
      obtain rfl : n = 20 := by omega
      rw [if_pos rfl] at i20
      have i20' : Ints .u8 wc (some ⟨b, off, none⟩) 0 (xs.drop 20) := i20
      go_wp2_with fail
      with_reducible refine (clone_any _ _ _ (xs.drop 20) wc i20' (fun h => by cases h) (by omega)).mono ?_
    all_goals
      rintro e W3 ⟨v, rfl, o3, b3⟩
      have hs3 := b3.size
      have y0 := (b3.cell (p := ⟨w.heap.size + 1, 0, none⟩) (by rw [Hs2.out]; simp)).trans z0
      have y1 := (b3.cell (p := ⟨w.heap.size + 1, 1, none⟩) (by rw [Hs2.out]; simp)).trans z1
      have y2 := (b3.cell (p := ⟨w.heap.size + 1, 2, none⟩) (by rw [Hs2.out]; simp)).trans z2
      have y3 := (b3.cell (p := ⟨w.heap.size + 1, 3, none⟩) (by rw [Hs2.out]; simp)).trans z3
      have y4 := (b3.cell (p := ⟨w.heap.size + 1, 4, none⟩) (by rw [Hs2.out]; simp)).trans z4
      have y5 := (b3.cell (p := ⟨w.heap.size + 1, 5, none⟩) (by rw [Hs2.out]; simp)).trans z5
      have yf := (b3.frozen (p := ⟨w.heap.size + 1, 5, none⟩) (by rw [Hs2.out]; simp)).trans zf
      clear z0 z1 z2 z3 z4 z5 zf
      obtain ⟨av, nv, cv, rfl, hcv, rv⟩ := o3.read
      have hnv : nv ≤ 320 := by have := rv.len; rw [List.length_drop] at this; have := (HR.out).len; omega
      have B3 := q0.trans (b3.mono q0.size)
      have i03 := i00.below b3
      have s3 : w.heap.size + 2 ≤ W3.heap.size := by have := Hs2.out; omega
      go_wp2_with fail
      have B4 : Below w.heap.size w (W3.setCell ⟨w.heap.size + 1, 5, none⟩ (.slice av nv cv)) := B3.setCell (p := ⟨w.heap.size + 1, 5, none⟩) (by show w.heap.size ≤ w.heap.size + 1; omega) _
      have o4 := o3.setOther (p := ⟨w.heap.size + 1, 5, none⟩) (by rw [Hs2.out]; simp) (.slice av nv cv)
      have hz3 : W3.heap[w.heap.size]? = some (.cells #[.int .i64 0, .int .i64 0, .int .i64 0, .int .i64 0, .int .i64 0, .slice none 0 0] 74) := by rw [b3.block _ (by rw [Hs2.out]; omega)]; exact HZ2.out
      have hz4 : (W3.setCell ⟨w.heap.size + 1, 5, none⟩ (.slice av nv cv)).heap[w.heap.size]? = some (.cells #[.int .i64 0, .int .i64 0, .int .i64 0, .int .i64 0, .int .i64 0, .slice none 0 0] 74) := by
        rw [Below.heap_setCell _ _ _ _ (by simp)]; exact hz3
      have t0 : (W3.setCell ⟨w.heap.size + 1, 5, none⟩ (.slice av nv cv)).cell? ⟨w.heap.size + 1, 0, none⟩ = some (.int .i64 S) := by simp [go_sem, y0]
      have t1 : (W3.setCell ⟨w.heap.size + 1, 5, none⟩ (.slice av nv cv)).cell? ⟨w.heap.size + 1, 1, none⟩ = some (.int .i64 D) := by simp [go_sem, y1]
      have t2 : (W3.setCell ⟨w.heap.size + 1, 5, none⟩ (.slice av nv cv)).cell? ⟨w.heap.size + 1, 2, none⟩ = some (.int .i64 T) := by simp [go_sem, y2]
      have t3 : (W3.setCell ⟨w.heap.size + 1, 5, none⟩ (.slice av nv cv)).cell? ⟨w.heap.size + 1, 3, none⟩ = some (.int .i64 K) := by simp [go_sem, y3]
      have t4 : (W3.setCell ⟨w.heap.size + 1, 5, none⟩ (.slice av nv cv)).cell? ⟨w.heap.size + 1, 4, none⟩ = some (.int .i64 (X4 * 256 + X5)) := by simp [go_sem, y4]
      have t5 : (W3.setCell ⟨w.heap.size + 1, 5, none⟩ (.slice av nv cv)).cell? ⟨w.heap.size + 1, 5, none⟩ = some (.slice av nv cv) := by simp [go_sem, y5]
      have hsz4 : w.heap.size + 2 ≤ (W3.setCell ⟨w.heap.size + 1, 5, none⟩ (.slice av nv cv)).heap.size := by simpa using s3
      generalize W3.setCell ⟨w.heap.size + 1, 5, none⟩ (.slice av nv cv) = W4 at *
      obtain ⟨_, _, _, hv4, _, rv4⟩ := o4.read
      cases hv4
      clear y0 y1 y2 y3 y4 y5 yf hz3
      refine (encode4_any S D T K (X4 * 256 + X5) av nv cv (xs.drop 20) W4 HOK.out hnv rv4).mono ?_
      rintro e W5 ⟨v5, rfl, o5, b5⟩
      obtain ⟨a5, n5, c5, rfl, hc5, r5⟩ := o5.read
      have B5 := B4.trans (b5.mono B4.size)
      have u0 := (b5.cell (p := ⟨w.heap.size + 1, 0, none⟩) (by show w.heap.size + 1 < _; omega)).trans t0
      have u1 := (b5.cell (p := ⟨w.heap.size + 1, 1, none⟩) (by show w.heap.size + 1 < _; omega)).trans t1
      have u2 := (b5.cell (p := ⟨w.heap.size + 1, 2, none⟩) (by show w.heap.size + 1 < _; omega)).trans t2
      have u3 := (b5.cell (p := ⟨w.heap.size + 1, 3, none⟩) (by show w.heap.size + 1 < _; omega)).trans t3
      have u4 := (b5.cell (p := ⟨w.heap.size + 1, 4, none⟩) (by show w.heap.size + 1 < _; omega)).trans t4
      have u5 := (b5.cell (p := ⟨w.heap.size + 1, 5, none⟩) (by show w.heap.size + 1 < _; omega)).trans t5
      have hz5 := (b5.block w.heap.size (by omega)).trans hz4
      have oo5 := o4.below b5 o4.lt'
      clear t0 t1 t2 t3 t4 t5 hz4
      have i05 := (HR.out).below B5
      have hI5 : Pl.IsB (Pl.enc4 S D T K (X4 * 256 + X5) (xs.drop 20)) := Pl.enc4_isB HOK.out (HB.out.drop 20) (by rw [← rv4.len] at hnv; exact hnv)
      have f0 : W5.cell? ⟨w.heap.size, 0, none⟩ = some (.int .i64 0) := by simp [World.cell?, hz5]
      have f1 : W5.cell? ⟨w.heap.size, 1, none⟩ = some (.int .i64 0) := by simp [World.cell?, hz5]
      have f2 : W5.cell? ⟨w.heap.size, 2, none⟩ = some (.int .i64 0) := by simp [World.cell?, hz5]
      have f3 : W5.cell? ⟨w.heap.size, 3, none⟩ = some (.int .i64 0) := by simp [World.cell?, hz5]
      have f4 : W5.cell? ⟨w.heap.size, 4, none⟩ = some (.int .i64 0) := by simp [World.cell?, hz5]
      have f5 : W5.cell? ⟨w.heap.size, 5, none⟩ = some (.slice none 0 0) := by simp [World.cell?, hz5]
      have g0 : ∀ j, W5.frozen? ⟨w.heap.size, j, none⟩ = false := fun j => frozen_of_row W5 w.heap.size j _ _ hz5
      have g00 := g0 0
      have g01 := g0 1
      have g02 := g0 2
      have g03 := g0 3
      have g04 := g0 4
      have g05 := g0 5
      clear g0
      by_cases hE : Pl.enc4 S D T K (X4 * 256 + X5) (xs.drop 20) = xs
      · rw [hE] at r5 o5
        go_wp2_with fail
        refine (equal_yes _ _ _ _ _ _ xs W5 r5 i05).mono ?_
        rintro e w' ⟨rfl, rfl⟩
        go_wp2_with fail
        refine bodyPost_ret (v := .tuple #[pk4 S D T K (X4 * 256 + X5) (.slice av nv cv), .nilIface]) (by simp [results, Tryd.results45, go_sem, f0, f1, f2, f3, f4, f5, pk4]) rfl ?_
        refine ⟨fun _ => ⟨.slice av nv cv, rfl, ?_⟩, fun hn => absurd hE hn, fun hn => absurd hE hn, ?_⟩
        · have hle : w.heap.size + 2 ≤ wc.heap.size := by rw [Hs2.out]; omega
          refine Own.mono ?_ (B := wc.heap.size) (by omega)
          repeat' (first | (with_reducible exact oo5) | (with_reducible refine Own.setOther ?_ ?_ _) | (show w.heap.size < wc.heap.size; omega))
        · repeat' (first | (with_reducible exact B5) | (with_reducible refine Below.setCell ?_ ?_ _) | (exact Nat.le_refl _))
      · have HE := Lib.hid hE
        clear hE
        go_wp2_with fail
        refine (equal_no _ _ _ _ _ _ _ xs W5 r5 i05 hI5 HB.out HE.out).mono ?_
        rintro e w' ⟨rfl, rfl⟩
        generalize hE5 : Pl.enc4 S D T K (X4 * 256 + X5) (xs.drop 20) = E5 at *
        have lE5 : E5.length = 20 + (xs.drop 20).length := by rw [← hE5]; exact Pl.enc4_length ..
        have HE5 := Lib.hid hE5
        clear hE5
        obtain ⟨g5, m5, d5, hs5, hn5, hc5', hg5, hg5', _, _⟩ := o5.shape (by omega)
        cases hs5
        have k10 : (10 : Int) ≤ (n5 : Int) := by omega
        have k12 : (12 : Int) ≤ (n5 : Int) := by omega
        have k12' : (12 : Int) ≤ (c5 : Int) := by omega
        have kc : ¬ c5 = 10 := by omega
        have is5 := i05.sub 10 12 (by omega) (by omega)
        have HL5 := Lib.hid lE5
        have HN5 := Lib.hid hn5
        clear lE5 hn5
        go_wp2_with fail
        go_region_law (first | (refine step_copy rfl (Operand.tmp 52) (Operand.tmp 54) rfl W4.heap.size g5 n5 c5 10 2 _ E5 (by first | exact o5 | exact o5.drew) rfl _ _ ((xs.drop 10).take 2) rfl (by first | exact is5 | exact is5.drew) (by omega) ?_; intro W6 o6 b6))
        have hb6 : Below W4.heap.size W5 W6 := ((Below.refl _ W5).drew).trans b6
        have B6 : Below w.heap.size w W6 := B5.trans (hb6.mono B4.size)
        have i06 := (HR.out).below B6
        have hP : E5.take 10 ++ ((xs.drop 10).take 2 ++ E5.drop (10 + 2)) = Pl.patch4 E5 xs := rfl
        rw [hP] at o6
        have hI6 : Pl.IsB (Pl.patch4 E5 xs) := (hI5.take 10).append (((HB.out.drop 10).take 2).append (hI5.drop 12))
        have hz6 := (hb6.block w.heap.size (by omega)).trans hz5
        clear f0 f1 f2 f3 f4 f5 g00 g01 g02 g03 g04 g05 is5
        have f0 : W6.cell? ⟨w.heap.size, 0, none⟩ = some (.int .i64 0) := by simp [World.cell?, hz6]
        have f1 : W6.cell? ⟨w.heap.size, 1, none⟩ = some (.int .i64 0) := by simp [World.cell?, hz6]
        have f2 : W6.cell? ⟨w.heap.size, 2, none⟩ = some (.int .i64 0) := by simp [World.cell?, hz6]
        have f3 : W6.cell? ⟨w.heap.size, 3, none⟩ = some (.int .i64 0) := by simp [World.cell?, hz6]
        have f4 : W6.cell? ⟨w.heap.size, 4, none⟩ = some (.int .i64 0) := by simp [World.cell?, hz6]
        have f5 : W6.cell? ⟨w.heap.size, 5, none⟩ = some (.slice none 0 0) := by simp [World.cell?, hz6]
        have g0 : ∀ j, W6.frozen? ⟨w.heap.size, j, none⟩ = false := fun j => frozen_of_row W6 w.heap.size j _ _ hz6
        have g00 := g0 0
        have g01 := g0 1
        have g02 := g0 2
        have g03 := g0 3
        have g04 := g0 4
        have g05 := g0 5
        clear g0
        obtain ⟨_, _, _, hv6, _, r6⟩ := o6.read
        cases hv6
        by_cases hQ : Pl.patch4 E5 xs = xs
        · rw [hQ] at r6
          go_wp2_with fail
          refine (equal_yes _ _ _ _ _ _ xs W6 r6 i06).mono ?_
          rintro e w' ⟨rfl, rfl⟩
          go_wp2_with fail
          refine bodyPost_ret (v := .tuple #[pk4 0 0 0 0 0 (.slice none 0 0), errv 6]) (by simp [results, Tryd.results45, go_sem, f0, f1, f2, f3, f4, f5, pk4, errv]) rfl ?_
          refine ⟨fun hn => absurd (HE5.out ▸ hn) HE.out, fun _ _ => rfl, fun _ hn => absurd (HE5.out ▸ hQ) hn, ?_⟩
          repeat' (first | (with_reducible exact B6) | (with_reducible refine Below.setCell ?_ ?_ _) | (exact Nat.le_refl _))
        · have HQ := Lib.hid hQ
          clear hQ
          go_wp2_with fail
          refine (equal_no _ _ _ _ _ _ _ xs W6 r6 i06 hI6 HB.out HQ.out).mono ?_
          rintro e w' ⟨rfl, rfl⟩
          go_wp2_with fail
          refine bodyPost_ret (v := .tuple #[pk4 0 0 0 0 0 (.slice none 0 0), errv 5]) (by simp [results, Tryd.results45, go_sem, f0, f1, f2, f3, f4, f5, pk4, errv]) rfl ?_
          refine ⟨fun hn => absurd (HE5.out ▸ hn) HE.out, fun _ hn => absurd (HE5.out ▸ hn) HQ.out, fun _ _ => rfl, ?_⟩
          repeat' (first | (with_reducible exact B6) | (with_reducible refine Below.setCell ?_ ?_ _) | (exact Nat.le_refl _))
end Go.Proofs.YtkjchddidpjjmaaDoor
/- ip4: what is written is read, in plain lists; Decode of whatever comes in; Encode where it refuses; Pack4s of two alike. Conditions: as each theorem states them. -/
namespace Go.Proofs.YtkjchddidpjjmaaDoor
open Go.RowKit

namespace Pl
/-- Are bytes a packet? -/
def IsPk4 (xs : List Int) : Prop := ∃ s d t k i b, Ok4 s d t k i ∧ IsB b ∧ b.length ≤ 320 ∧ xs = enc4 s d t k i b

theorem raw_head4 (s d t k i n c : Int) : raw 0 (head4 s d t k i n c) = raw 0 (head4 s d t k i n 0) + c := by
  simp [head4, first4, four, raw]
  omega
theorem take_enc4 (s d t k i : Int) (b : List Int) : (enc4 s d t k i b).take 20 = head4 s d t k i b.length (sum4 s d t k i b.length) := by
  unfold enc4
  rw [List.take_append_of_le_length (by rw [head4_length]; omega)]
  exact List.take_of_length_le (by rw [head4_length]; omega)
theorem sum_enc4 {s d t k i : Int} {b : List Int} (h : Ok4 s d t k i) (hn : b.length ≤ 320) : fold (raw 0 ((enc4 s d t k i b).take 20)) = 65535 := by
  rw [take_enc4, raw_head4]
  unfold sum4
  exact fold_check (raw_bd (head4_isB h (by omega) (by omega)) 0).1
theorem drop_enc4 (s d t k i : Int) (b : List Int) : (enc4 s d t k i b).drop 20 = b := by
  unfold enc4
  rw [List.drop_append_of_le_length (by rw [head4_length]; omega), List.drop_of_length_le (by rw [head4_length]; omega)]
  rfl
theorem fields_enc4 {s d t k i : Int} {b : List Int} (h : Ok4 s d t k i) :
    at4 (enc4 s d t k i b) 12 = s ∧ at4 (enc4 s d t k i b) 16 = d ∧ (enc4 s d t k i b).getD 8 0 = t ∧ (enc4 s d t k i b).getD 9 0 = k ∧ at2 (enc4 s d t k i b) 4 = i := by
  obtain ⟨⟨s0, s1⟩, ⟨d0, d1⟩, ⟨t0, t1⟩, ⟨k0, k1⟩, ⟨i0, i1⟩⟩ := h
  unfold enc4 head4 first4 four at4 at2
  simp only [List.cons_append, List.nil_append, List.getD_cons_succ, List.getD_cons_zero]
  refine ⟨by omega, by omega, trivial, trivial, by omega⟩
theorem enc4_inj {s d t k i s' d' t' k' i' : Int} {b b' : List Int} (h : Ok4 s d t k i) (h' : Ok4 s' d' t' k' i') (he : enc4 s d t k i b = enc4 s' d' t' k' i' b') : s = s' ∧ d = d' ∧ t = t' ∧ k = k' ∧ i = i' ∧ b = b' := by
  obtain ⟨e0, e1, e2, e3, e4⟩ := fields_enc4 (b := b) h
  obtain ⟨f0, f1, f2, f3, f4⟩ := fields_enc4 (b := b') h'
  have e5 := drop_enc4 s d t k i b
  rw [he] at e0 e1 e2 e3 e4 e5
  exact ⟨e0.symm.trans f0, e1.symm.trans f1, e2.symm.trans f2, e3.symm.trans f3, e4.symm.trans f4, e5.symm.trans (drop_enc4 ..)⟩
/-- The packet that bytes are is that of their own numbers. -/
theorem pk4_iff {xs : List Int} (hb : IsB xs) (hn : xs.length ≤ 340) : IsPk4 xs ↔ enc4 (at4 xs 12) (at4 xs 16) (xs.getD 8 0) (xs.getD 9 0) (at2 xs 4) (xs.drop 20) = xs := by
  constructor
  · rintro ⟨s, d, t, k, i, b, hok, hbb, hl, rfl⟩
    obtain ⟨e0, e1, e2, e3, e4⟩ := fields_enc4 (b := b) hok
    rw [e0, e1, e2, e3, e4, drop_enc4]
  · intro h
    exact ⟨_, _, _, _, _, _, ok4_of hb, hb.drop 20, by rw [List.length_drop]; omega, h.symm⟩
theorem pk4_len {xs : List Int} (h : IsPk4 xs) : 20 ≤ xs.length ∧ xs.length ≤ 340 := by
  obtain ⟨s, d, t, k, i, b, _, _, hl, rfl⟩ := h
  rw [enc4_length]
  omega
theorem pk4_isB {xs : List Int} (h : IsPk4 xs) : IsB xs := by
  obtain ⟨s, d, t, k, i, b, hok, hb, hl, rfl⟩ := h
  exact enc4_isB hok hb hl
theorem pk4_sum {xs : List Int} (h : IsPk4 xs) : fold (raw 0 (xs.take 20)) = 65535 := by
  obtain ⟨s, d, t, k, i, b, hok, _, hl, rfl⟩ := h
  exact sum_enc4 hok hl
/-- With a byte of the head turned by a power of two it is no packet. -/
theorem pk4_turn {xs : List Int} (h : IsPk4 xs) (j : Nat) (hj : j < 20) (y p : Int) (hp : 1 ≤ p ∧ p ≤ 128) (hy : y = xs.getD j 0 + p ∨ y = xs.getD j 0 - p) : ¬ IsPk4 (xs.set j y) := by
  intro h2
  have e1 := pk4_sum h
  have e2 := pk4_sum h2
  have hl := (pk4_len h).1
  rw [List.take_set] at e2
  rw [raw_set _ _ _ _ (by rw [List.length_take]; omega)] at e2
  have hg : (xs.take 20).getD j 0 = xs.getD j 0 := by simp [List.getD, hj]
  rw [hg] at e2
  generalize raw 0 (xs.take 20) = R at e1 e2
  generalize xs.getD j 0 = x at *
  unfold fold at e1 e2
  split at e1
  · omega
  · split at e2
    · omega
    · split at e2 <;> omega
end Pl

/-- Decode of whatever comes in. -/
theorem decode4_any (a : Option Addr) (n c : Nat) (xs : List Int) (w : World) (hr : Ints .u8 w a n xs) (hb : Pl.IsB xs) (hnc : n ≤ c) :
    Calls Tryd.prog 45 #[.slice a n c] w fun e w' =>
      ((∃ s d t k i b av nv cv, Pl.Ok4 s d t k i ∧ Pl.IsB b ∧ b.length ≤ 320 ∧ xs = Pl.enc4 s d t k i b ∧ e = .returned (.tuple #[pk4 s d t k i (.slice av nv cv), .nilIface]) ∧ Own w' w.heap.size (.slice av nv cv) b) ∨
        (¬ Pl.IsPk4 xs ∧ ∃ q, e = .returned (.tuple #[pk4 0 0 0 0 0 (.slice none 0 0), errv q]))) ∧ Below w.heap.size w w' := by
  by_cases h0 : n < 20 ∨ 340 < n
  · refine (decode4_short a n c w h0).mono fun e w' ⟨he, hw⟩ => ⟨.inr ⟨fun h => ?_, 5, he⟩, hw⟩
    have := Pl.pk4_len h
    have := hr.len
    omega
  · obtain ⟨b, off, rfl, hbl, _⟩ := hr.at (by omega)
    have hl := hr.len
    refine (decode4_core b off n c xs w _ _ _ _ _ _ hr hbl hnc (by omega) (by omega) (Pl.ok4_of hb) rfl rfl rfl rfl rfl rfl hb).mono fun e w' h => ?_
    obtain ⟨h1, h2, h3, h4⟩ := h
    have hiff := Pl.pk4_iff hb (by omega)
    refine ⟨?_, h4⟩
    by_cases hE : Pl.enc4 (Pl.at4 xs 12) (Pl.at4 xs 16) (xs.getD 8 0) (xs.getD 9 0) (Pl.at2 xs 4) (xs.drop 20) = xs
    · obtain ⟨v, he, ho⟩ := h1 hE
      obtain ⟨av, nv, cv, rfl, _, _⟩ := ho.read
      exact .inl ⟨_, _, _, _, _, _, av, nv, cv, Pl.ok4_of hb, hb.drop 20, by rw [List.length_drop]; omega, hE.symm, he, ho⟩
    · refine .inr ⟨fun h => hE (hiff.1 h), ?_⟩
      by_cases hP : Pl.patch4 (Pl.enc4 (Pl.at4 xs 12) (Pl.at4 xs 16) (xs.getD 8 0) (xs.getD 9 0) (Pl.at2 xs 4) (xs.drop 20)) xs = xs
      · exact ⟨6, h2 hE hP⟩
      · exact ⟨5, h3 hE hP⟩

/-- Decode of a packet's bytes. -/
theorem decode4_enc (a : Option Addr) (n c : Nat) (s d t k i : Int) (b : List Int) (w : World) (hr : Ints .u8 w a n (Pl.enc4 s d t k i b)) (h : Pl.Ok4 s d t k i) (hb : Pl.IsB b) (hl : b.length ≤ 320) (hnc : n ≤ c) :
    Calls Tryd.prog 45 #[.slice a n c] w fun e w' => ∃ av nv cv, e = .returned (.tuple #[pk4 s d t k i (.slice av nv cv), .nilIface]) ∧ Own w' w.heap.size (.slice av nv cv) b ∧ Below w.heap.size w w' := by
  refine (decode4_any a n c _ w hr (Pl.enc4_isB h hb hl) hnc).mono fun e w' h2 => ?_
  obtain ⟨⟨s', d', t', k', i', b', av, nv, cv, h', _, _, he, hr', ho⟩ | ⟨hn, _⟩, hw⟩ := h2
  · obtain ⟨rfl, rfl, rfl, rfl, rfl, rfl⟩ := Pl.enc4_inj h h' he
    exact ⟨av, nv, cv, hr', ho, hw⟩
  · exact absurd ⟨_, _, _, _, _, _, h, hb, hl, rfl⟩ hn

theorem encode4_bad (s d t k i : Int) (a : Option Addr) (n c : Nat) (w : World) (h : ¬ (Pl.Ok4 s d t k i ∧ n ≤ 320)) :
    Calls Tryd.prog 44 #[pk4 s d t k i (.slice a n c)] w fun e w' => (∃ q, e = .returned (.tuple #[.slice none 0 0, errv q])) ∧ Below w.heap.size w w' := by
  have key : ∀ w, Calls Tryd.prog 84 #[pk4 s d t k i (.slice a n c)] w fun e w' => (∃ q, e = .returned (errv q)) ∧ Below w.heap.size w w' := fun w => by
    by_cases hok : Pl.Ok4 s d t k i
    · exact (check4_full s d t k i a n c w hok (by have : ¬ n ≤ 320 := fun hn => h ⟨hok, hn⟩; omega)).mono fun e w' ⟨he, hw⟩ => ⟨⟨3, he⟩, hw⟩
    · exact (check4_range s d t k i a n c w hok).mono fun e w' ⟨he, hw⟩ => ⟨⟨1, he⟩, hw⟩
  clear h
  have KEY := Lib.hid key
  clear key
  unfold pk4
  go_enter Tryd.func44, Tryd.ntmps44
  go_wp2_with fail
  refine (KEY.out _).mono ?_
  rintro e W2 ⟨⟨q, rfl⟩, b2⟩
  unfold errv
  go_wp2_with fail
  go_ret2
  exact ⟨⟨q, rfl⟩, by
    have : Below w.heap.size w (w.alloc (.cells #[.int .i64 s, .int .i64 d, .int .i64 t, .int .i64 k, .int .i64 i, .slice a n c] 74)) := by go_grown
    exact this.trans (b2.mono this.size)⟩

set_option maxHeartbeats 800000 in
theorem pack4s_yes (s d t k i : Int) (a a' : Option Addr) (n c n' c' : Nat) (xs : List Int) (w : World) (h1 : Ints .u8 w a n xs) (h2 : Ints .u8 w a' n' xs) :
    Calls Tryd.prog 39 #[pk4 s d t k i (.slice a n c), pk4 s d t k i (.slice a' n' c')] w fun e w' => e = .returned (.bool true) ∧ Below w.heap.size w w' := by
  have B2 : Below w.heap.size w ((w.alloc (.cells #[.int .i64 s, .int .i64 d, .int .i64 t, .int .i64 k, .int .i64 i, .slice a n c] 74)).alloc (.cells #[.int .i64 s, .int .i64 d, .int .i64 t, .int .i64 k, .int .i64 i, .slice a' n' c'] 74)) := by go_grown
  have k1 := conv_str (c := c) (h1.below B2)
  have k2 := conv_str (c := c') (h2.below B2)
  have HB := Lib.hid B2
  generalize strOfNums xs = z at k1 k2
  clear h1 h2 B2
  unfold pk4
  go_enter Tryd.func39, Tryd.ntmps39
  go_wp2
  go_ret
  exact ⟨rfl, HB.out⟩
end Go.Proofs.YtkjchddidpjjmaaDoor
/- The document's answers on packets of fours: Fault4, Bytes4, Encoded4. Conditions: as each theorem states them. -/
namespace Go.Proofs.YtkjchddidpjjmaaDoor
open Go.RowKit
def ok4b (s d t k i : Int) : Bool := w32 s && w32 d && w8 t && w8 k && w16 i
theorem ok4b_yes {s d t k i : Int} (h : ok4b s d t k i = true) : Pl.Ok4 s d t k i := by
  unfold ok4b at h
  simp only [Bool.and_eq_true] at h
  exact ⟨w32_yes h.1.1.1.1, w32_yes h.1.1.1.2, w8_yes h.1.1.2, w8_yes h.1.2, w16_yes h.2⟩
theorem ok4b_no {s d t k i : Int} (h : ok4b s d t k i = false) : ¬ Pl.Ok4 s d t k i := by
  rintro ⟨⟨a0, a1⟩, ⟨b0, b1⟩, ⟨c0, c1⟩, ⟨d0, d1⟩, ⟨e0, e1⟩⟩
  have : ok4b s d t k i = true := by
    unfold ok4b w32 w8 w16
    simp only [Bool.and_eq_true, decide_eq_true_eq]
    omega
  rw [this] at h
  cases h
/-- What is wrong with a packet of n bytes. -/
def fault4 (s d t k i : Int) (n : Nat) : Int := if ok4b s d t k i = true then (if n ≤ 320 then 0 else 3) else 1

set_option maxHeartbeats 2000000 in
theorem rfault4_any (s d t k i : Int) (a : Option Addr) (n c : Nat) (w : World) :
    Calls Tryd.prog 81 #[pk4 s d t k i (.slice a n c)] w fun e w' => e = .returned (.int .i64 (fault4 s d t k i n)) ∧ Ext w w' := by
  have E0 : Ext w (w.alloc (.cells #[.int .i64 s, .int .i64 d, .int .i64 t, .int .i64 k, .int .i64 i, .slice a n c] 74)) := (Ext.refl w).alloc _
  obtain ⟨bs, hs⟩ : ∃ b, w32 s = b := ⟨_, rfl⟩
  obtain ⟨bd, hd⟩ : ∃ b, w32 d = b := ⟨_, rfl⟩
  obtain ⟨bt, ht⟩ : ∃ b, w8 t = b := ⟨_, rfl⟩
  obtain ⟨bk, hk⟩ : ∃ b, w8 k = b := ⟨_, rfl⟩
  obtain ⟨bi, hi⟩ : ∃ b, w16 i = b := ⟨_, rfl⟩
  have hg : ok4b s d t k i = (bs && bd && bt && bk && bi) := by unfold ok4b; rw [hs, hd, ht, hk, hi]
  have HS := Lib.hid (fun W => (show Calls Tryd.prog 12 #[.int .i64 s] W (fun e w' => e = .returned (.bool bs) ∧ W = w') from hs ▸ isFour_any s W))
  have HD := Lib.hid (fun W => (show Calls Tryd.prog 12 #[.int .i64 d] W (fun e w' => e = .returned (.bool bd) ∧ W = w') from hd ▸ isFour_any d W))
  have HT := Lib.hid (fun W => (show Calls Tryd.prog 94 #[.int .i64 t] W (fun e w' => e = .returned (.bool bt) ∧ W = w') from ht ▸ isByte_any t W))
  have HK := Lib.hid (fun W => (show Calls Tryd.prog 94 #[.int .i64 k] W (fun e w' => e = .returned (.bool bk) ∧ W = w') from hk ▸ isByte_any k W))
  have HI := Lib.hid (fun W => (show Calls Tryd.prog 29 #[.int .i64 i] W (fun e w' => e = .returned (.bool bi) ∧ W = w') from hi ▸ word_any i W))
  have HG := Lib.hid hg
  clear hs hd ht hk hi hg
  unfold pk4
  go_enter Tryd.func81, Tryd.ntmps81
  go_wp2_with fail
  refine (HS.out _).mono ?_
  rintro e w' ⟨rfl, rfl⟩
  go_wp2_with fail
  refine (HD.out _).mono ?_
  rintro e w' ⟨rfl, rfl⟩
  go_wp2_with fail
  refine (HT.out _).mono ?_
  rintro e w' ⟨rfl, rfl⟩
  go_wp2_with fail
  refine (HK.out _).mono ?_
  rintro e w' ⟨rfl, rfl⟩
  go_wp2_with fail
  refine (HI.out _).mono ?_
  rintro e w' ⟨rfl, rfl⟩
  by_cases hall : (bs && bd && bt && bk && bi) = true
  case neg =>
    have hf : fault4 s d t k i n = 1 := by unfold fault4; rw [HG.out, if_neg hall]
    have HF := Lib.hid hf
    clear hf
    cases bs
    case' true =>
      cases bd
      case' true =>
        cases bt
        case' true =>
          cases bk
          case' true =>
            cases bi
            case' true => exact absurd rfl hall
    all_goals
      clear hall
      go_wp2_with fail
      go_ret
      exact ⟨by rw [HF.out]; first | done | rfl, E0⟩
  case pos =>
    simp only [Bool.and_eq_true] at hall
    obtain ⟨⟨⟨⟨rfl, rfl⟩, rfl⟩, rfl⟩, rfl⟩ := hall
    by_cases hn : n ≤ 320
    · have hf : fault4 s d t k i n = 0 := by unfold fault4; rw [HG.out]; simp [hn]
      have HF := Lib.hid hf
      have hn' : ¬ (320 : Int) < (n : Int) := by omega
      clear hf
      go_wp2_with fail
      go_ret
      exact ⟨by rw [HF.out]; first | done | rfl, E0⟩
    · have hf : fault4 s d t k i n = 3 := by unfold fault4; rw [HG.out]; simp [hn]
      have HF := Lib.hid hf
      have hn' : (320 : Int) < (n : Int) := by omega
      clear hf
      go_wp2_with fail
      go_ret
      exact ⟨by rw [HF.out]; first | done | rfl, E0⟩

end Go.Proofs.YtkjchddidpjjmaaDoor
/- The document's Decoded4. Conditions: as each theorem states them. -/
namespace Go.Proofs.YtkjchddidpjjmaaDoor
open Go.RowKit
theorem Ext.drawn4 {a b w : World} (h : Ext a b) (e : ∃ q, w = b.drewN q) : Ext a w ∧ Ext b w := by
  obtain ⟨q, rfl⟩ := e
  exact ⟨h.drewN q, (Ext.refl b).drewN q⟩
theorem Ext.drewN' {a b : World} (h : Ext a b) (q : Nat) : Ext a (b.drewN q) := h.drewN q
theorem Ext.drew' {a b : World} (h : Ext a b) : Ext a b.drew := h.drew
theorem Ext.alloc' {a b : World} (h : Ext a b) (o : Obj) : Ext a (b.alloc o) := h.alloc o
theorem drawn_size {b w : World} (e : ∃ q, w = b.drewN q) : w.heap.size = b.heap.size := by
  obtain ⟨q, rfl⟩ := e
  rfl
/-- At a store whose run is known, in a region. -/
theorem wp_store_by4 {P : Program} {o : Oper} {a : Act} {w : World} {K : Act → World → Prop} {Q : Exit → Act → World → Prop} (ty : TypeId) (x y : Operand) (ho : o.op = .store ty x y) (p : Addr) (hx : a.eval x = .pointer (some p)) {v : Value} {w' : World}
    (h : (Instr.storeAt ty (.pointer (some p)) v).run P w = .ok () w') (hy : a.eval y = v) (k : K (a.put o.dst undef) w') : Oper.wp P o a w K Q := by
  unfold Oper.wp execOp
  simp only [ho, hx, hy, Sem.run_bind, h, Result.andThen_ok, Sem.run_pure]
  exact k
theorem at_worldF {P : Program} {c : Code} {Q : Exit → Act → World → Prop} {a : Act} {W : World} (X : World → Prop) (h : X W) (k : ∀ W', X W' → c.wp P Q a W') : c.wp P Q a W := k W h
namespace Pl
/-- Have bytes a packet's shape? -/
def Shape4 (xs : List Int) : Prop := (20 ≤ xs.length ∧ xs.length ≤ 340) ∧ at2 xs 0 = 17664 ∧ at2 xs 2 = xs.length ∧ at2 xs 6 = 16384
end Pl
abbrev c4 (s d t k i : Int) (v : Value) : Array Value := #[.int .i64 s, .int .i64 d, .int .i64 t, .int .i64 k, .int .i64 i, v]
theorem Tryd.sizeP4 : (Tryd.prog.info? 74).map (·.size) = some 6 := by kernel_rfl
theorem Blk.p4 {w : World} {g : Nat} {t : TypeId} {s d tt k i : Int} {v : Value} (h : Blk w g t (c4 s d tt k i v)) : (Instr.loadAt 74 (.pointer (some ⟨g, 0, none⟩))).run Tryd.prog w = .ok (.agg (c4 s d tt k i v)) w := by
  have := run_loadAt_mid (P := Tryd.prog) w g 0 74 (c4 s d tt k i v).toList _ (fun j v hv => by
    rw [Array.getElem?_toList] at hv
    rw [h.cells, Nat.zero_add]; exact hv) Tryd.underlying74 rfl Tryd.sizeP4
  rw [Array.toArray_toList] at this
  exact this
theorem sto4 {w : World} {R : Nat} {ty : TypeId} {x0 x1 x2 x3 x4 : Int} {v0 : Value} (kb : Blk w R ty (c4 x0 x1 x2 x3 x4 v0)) (s d t k i : Int) (a : Option Addr) (n c : Nat) :
    (Instr.storeAt 74 (.pointer (some ⟨R, 0, none⟩)) (.agg #[.int .i64 s, .int .i64 d, .int .i64 t, .int .i64 k, .int .i64 i, .slice a n c])).run Tryd.prog w = .ok () (w.setRow R (c4 s d t k i (.slice a n c))) :=
  kb.store rfl Tryd.sizeP4 (by simp [Value.oneCell'])

end Go.Proofs.YtkjchddidpjjmaaDoor
/- Opening a packet: cross.read, cross.Open6, cross.Open4, the document's Seg6, Seg4. Conditions: as each theorem states them (the packet may be). -/
namespace Go.Proofs.YtkjchddidpjjmaaDoor
open Go.RowKit
namespace Pl
/-- What is wrong with a body, as a segment of that kind over something. -/
def opQ (k : Int) (xs : List Int) (over : Int) : Int := if ¬ (k = 6 ∨ k = 17) then 2 else segQ k xs over
def opV (k : Int) (xs : List Int) (over : Int) : Sg := if opQ k xs over = 0 then decSeg k xs else ⟨0, 0, 0, 0, 0, 0, 0⟩
def opD (k : Int) (xs : List Int) (over : Int) : List Int := if opQ k xs over = 0 then xs.drop (segSize k) else []
theorem op_known {k over : Int} {xs : List Int} (hk : k = 6 ∨ k = 17) : opQ k xs over = segQ k xs over ∧ opV k xs over = segV k xs over ∧ opD k xs over = segD k xs over := by
  have h : opQ k xs over = segQ k xs over := by unfold opQ; rw [if_neg (fun hn => hn hk)]
  refine ⟨h, ?_, ?_⟩
  · unfold opV segV; rw [h]
  · unfold opD segD; rw [h]
end Pl
def OpGot (k : Int) (xs : List Int) (over : Int) (w : World) (e : Ending) (w' : World) : Prop :=
  ∃ a n c, e = .returned (.tuple #[(Pl.opV k xs over).v (.slice a n c), erv (Pl.opQ k xs over)]) ∧ Own w' w.heap.size (.slice a n c) (Pl.opD k xs over) ∧ Ext w w'
def ROpGot (k : Int) (xs : List Int) (over : Int) (w : World) (e : Ending) (w' : World) : Prop :=
  ∃ a n c, e = .returned (.tuple #[(Pl.opV k xs over).v (.slice a n c), .int .i64 (Pl.opQ k xs over)]) ∧ Ints .u8 w' a n (Pl.opD k xs over) ∧ Ext w w'
set_option maxRecDepth 100000 in
set_option maxHeartbeats 2000000 in
theorem read_any (k : Int) (a : Option Addr) (n c : Nat) (xs : List Int) (over : Int) (w : World) (hr : Ints .u8 w a n xs) (hb : Pl.IsB xs) (hnc : n ≤ c) (hc : a = none → c = 0) :
    Calls Tryd.prog 98 #[.int .i64 k, .slice a n c, .int .i64 over] w (OpGot k xs over w) := by
  have KR := Blk.new w 50 #[.int .i64 0, .int .i64 0, .int .i64 0, .int .i64 0, .int .i64 0, .int .i64 0, .int .i64 0, .slice none 0 0]
  have E0 : Ext w (w.alloc (.cells #[.int .i64 0, .int .i64 0, .int .i64 0, .int .i64 0, .int .i64 0, .int .i64 0, .int .i64 0, .slice none 0 0] 50)) := (Ext.refl w).alloc _
  by_cases hk : k = 6 ∨ k = 17
  case neg =>
    have k6 : (k != 6) = true := by simp; omega
    have k17 : (k != 17) = true := by simp; omega
    have HQ := Lib.hid (show Pl.opQ k xs over = 2 by unfold Pl.opQ; rw [if_pos hk])
    have s0 := sto KR ⟨0, 0, 0, 0, 0, 0, 0⟩ none 0 0
    clear hk
    go_enter Tryd.func98, Tryd.ntmps98
    go_wp2_with ((apply store_by rfl _ _ _ rfl _ rfl); (focus (with_reducible assumption)); (focus rfl))
    refine bodyPost_ret (results_cell2 Tryd.results98 _ _ w.heap.size 50 #[.int .i64 0, .int .i64 0, .int .i64 0, .int .i64 0, .int .i64 0, .int .i64 0, .int .i64 0, .slice none 0 0] _ rfl (KR.row _) Tryd.underlying50 rfl Tryd.sizeSeg) rfl ⟨none, 0, 0, ?_, ?_, E0.row (Nat.le_refl _) _⟩
    · unfold Pl.opV
      rw [HQ.out, if_neg (by decide)]
      rfl
    · unfold Pl.opD
      rw [HQ.out, if_neg (by decide)]
      exact Own.nil _ _
  obtain ⟨e1, e2, e3⟩ := Pl.op_known (over := over) (xs := xs) hk
  have HD := Lib.hid (sdecode_any k a n c xs over _ (hr.ext E0) hb hnc hc)
  unfold DecGot at HD
  unfold OpGot
  rw [e1, e2, e3]
  generalize Pl.segV k xs over = V at *
  generalize Pl.segQ k xs over = Q at *
  generalize Pl.segD k xs over = D at *
  clear e1 e2 e3
  have key : (k != 6 && k != 17) = false := by rcases hk with rfl | rfl <;> rfl
  have fin : ∀ (v : Value) (W1 : World), Own W1 (w.heap.size + 1) v D → Ext (w.alloc (.cells #[.int .i64 0, .int .i64 0, .int .i64 0, .int .i64 0, .int .i64 0, .int .i64 0, .int .i64 0, .slice none 0 0] 50)) W1 → ∃ a n c, v = .slice a n c ∧ (Instr.storeAt 50 (.pointer (some ⟨w.heap.size, 0, none⟩)) (.agg (V.cells (.slice a n c)))).run Tryd.prog W1 = .ok () (W1.setRow w.heap.size (V.cells (.slice a n c))) ∧ Blk (W1.setRow w.heap.size (V.cells (.slice a n c))) w.heap.size 50 (V.cells (.slice a n c)) ∧ Own (W1.setRow w.heap.size (V.cells (.slice a n c))) w.heap.size (.slice a n c) D ∧ Ext w (W1.setRow w.heap.size (V.cells (.slice a n c))) := fun v W1 o q => by
    obtain ⟨a1, n1, c1, rfl, _, _⟩ := o.read
    have K1 := KR.ext q
    refine ⟨a1, n1, c1, rfl, sto K1 V a1 n1 c1, K1.row _, (o.rowOff (fun j hj => by have := (o.lt j hj).1; omega) _).mono (Nat.le_succ _), (E0.trans q).row (Nat.le_refl _) _⟩
  have HFIN := Lib.hid fin
  clear fin key hr hb
  rcases hk with rfl | rfl
  all_goals
    go_enter Tryd.func98, Tryd.ntmps98
    go_wp2_with fail
    refine HD.out.mono ?_
    rintro e W1 ⟨v, rfl, o, q⟩
    obtain ⟨a1, n1, c1, rfl, st, K1, o1, E1⟩ := HFIN.out v W1 (o.mono (by simp)) q
    have HO1 := Lib.hid o1
    have HE1 := Lib.hid E1
    clear o q o1 E1
    go_wp2_with ((apply store_by rfl _ _ _ rfl _ rfl); (focus (with_reducible assumption)); (focus rfl))
    refine bodyPost_ret (results_cell2 Tryd.results98 _ _ w.heap.size 50 (V.cells (.slice a1 n1 c1)) _ rfl K1 Tryd.underlying50 rfl Tryd.sizeSeg) rfl ⟨a1, n1, c1, rfl, HO1.out, HE1.out⟩

theorem val6_word {s d : Six} {k n : Int} : Pl.Word (val6 s d k n) := ⟨Pl.fold_lo _, Pl.fold_hi _⟩
theorem val4_word {s d k n : Int} : Pl.Word (val4 s d k n) := ⟨Pl.fold_lo _, Pl.fold_hi _⟩
theorem ok6_good {p : P6} {n : Nat} (hg : p.good = true) (hn : n ≤ 320) : ok6 p.src p.dst p.kind n = true := by
  obtain ⟨h1, h2, _, ⟨h3, h4⟩⟩ := P6.good_all hg
  unfold ok6 okO w8
  rw [h1, h2]
  simp [h3, h4]
  omega
theorem over6_good (p : P6) (n : Nat) (w : World) (hg : p.good = true) (hn : n ≤ 320) : Calls Tryd.prog 43 #[p.src.v, p.dst.v, .int .i64 p.kind, .int .i64 n] w fun e w' => e = .returned (.tuple #[.int .i64 (val6 p.src p.dst p.kind n), .nilIface]) ∧ Ext w w' := by
  have := over6_any p.src p.dst p.kind n w
  rw [ok6_good hg hn] at this
  exact this
theorem rover6_good (p : P6) (n : Nat) (w : World) (hg : p.good = true) (hn : n ≤ 320) : Calls Tryd.prog 95 #[p.src.v, p.dst.v, .int .i64 p.kind, .int .i64 n] w fun e w' => e = .returned (.tuple #[.int .i64 (val6 p.src p.dst p.kind n), .int .i64 0]) ∧ Ext w w' := by
  have := rover6_any p.src p.dst p.kind n w
  rw [ok6_good hg hn] at this
  exact this
theorem ok4_good {s d t k i : Int} {n : Nat} (hg : Pl.Ok4 s d t k i) (hn : n ≤ 320) : ok4 s d k n = true := by
  obtain ⟨⟨s0, s1⟩, ⟨d0, d1⟩, _, ⟨k0, k1⟩, _⟩ := hg
  have h1 : w32 s = true := by unfold w32; simp; omega
  have h2 : w32 d = true := by unfold w32; simp; omega
  unfold ok4 okO w8
  rw [h1, h2]
  simp [k0, k1]
  omega
theorem over4_good (s d t k i : Int) (n : Nat) (w : World) (hg : Pl.Ok4 s d t k i) (hn : n ≤ 320) : Calls Tryd.prog 99 #[.int .i64 s, .int .i64 d, .int .i64 k, .int .i64 n] w fun e w' => e = .returned (.tuple #[.int .i64 (val4 s d k n), .nilIface]) ∧ Ext w w' := by
  have := over4_any s d k n w
  rw [ok4_good hg hn] at this
  exact this
theorem rover4_good (s d t k i : Int) (n : Nat) (w : World) (hg : Pl.Ok4 s d t k i) (hn : n ≤ 320) : Calls Tryd.prog 96 #[.int .i64 s, .int .i64 d, .int .i64 k, .int .i64 n] w fun e w' => e = .returned (.tuple #[.int .i64 (val4 s d k n), .int .i64 0]) ∧ Ext w w' := by
  have := rover4_any s d k n w
  rw [ok4_good hg hn] at this
  exact this
end Go.Proofs.YtkjchddidpjjmaaDoor
/- Opening a packet that may be: cross.Open6, cross.Open4, the document's Seg6, Seg4. Conditions: as each theorem states them. -/
namespace Go.Proofs.YtkjchddidpjjmaaDoor
open Go.RowKit
theorem seg_ret {w W1 : World} {R B : Nat} (V : Sg) {D : List Int} {a : Option Addr} {n c : Nat} (KR : Blk W1 R 50 #[.int .i64 0, .int .i64 0, .int .i64 0, .int .i64 0, .int .i64 0, .int .i64 0, .int .i64 0, .slice none 0 0]) (E : Ext w W1) (hR : w.heap.size ≤ R) (hB : R < B) (o : Own W1 B (.slice a n c) D) :
    (Instr.storeAt 50 (.pointer (some ⟨R, 0, none⟩)) (.agg (V.cells (.slice a n c)))).run Tryd.prog W1 = .ok () (W1.setRow R (V.cells (.slice a n c))) ∧ Blk (W1.setRow R (V.cells (.slice a n c))) R 50 (V.cells (.slice a n c)) ∧ Own (W1.setRow R (V.cells (.slice a n c))) w.heap.size (.slice a n c) D ∧ Ext w (W1.setRow R (V.cells (.slice a n c))) :=
  ⟨sto KR V a n c, KR.row _, (o.rowOff (fun j hj => by have := (o.lt j hj).1; omega) _).mono (by omega), E.row hR _⟩
theorem seg_retI {w W1 : World} {R : Nat} (V : Sg) {D : List Int} {a : Option Addr} {n c : Nat} (KR : Blk W1 R 50 #[.int .i64 0, .int .i64 0, .int .i64 0, .int .i64 0, .int .i64 0, .int .i64 0, .int .i64 0, .slice none 0 0]) (E : Ext w W1) (hR : w.heap.size ≤ R) (o : Ints .u8 W1 a n D) (ho : 0 < n → ∀ p, a = some p → p.block ≠ R) :
    (Instr.storeAt 50 (.pointer (some ⟨R, 0, none⟩)) (.agg (V.cells (.slice a n c)))).run Tryd.prog W1 = .ok () (W1.setRow R (V.cells (.slice a n c))) ∧ Blk (W1.setRow R (V.cells (.slice a n c))) R 50 (V.cells (.slice a n c)) ∧ Ints .u8 (W1.setRow R (V.cells (.slice a n c))) a n D ∧ Ext w (W1.setRow R (V.cells (.slice a n c))) :=
  ⟨sto KR V a n c, KR.row _, Ints.keepRow o R _ ho, E.row hR _⟩

set_option maxRecDepth 100000 in
set_option maxHeartbeats 4000000 in
theorem open6_any (p : P6) (a : Option Addr) (n c : Nat) (xs : List Int) (w : World) (hg : p.good = true) (hn : n ≤ 320) (hr : Ints .u8 w a n xs) (hb : Pl.IsB xs) (hnc : n ≤ c) (hc : a = none → c = 0) :
    Calls Tryd.prog 79 #[p.v (.slice a n c)] w (OpGot p.kind xs (val6 p.src p.dst p.kind n) w) := by
  have KP := (Blk.new w 72 (p.cells (.slice a n c))).alloc (.cells #[.int .i64 0, .int .i64 0, .int .i64 0, .int .i64 0, .int .i64 0, .int .i64 0, .int .i64 0, .slice none 0 0] 50)
  have KR := Blk.at (n := w.heap.size + 1) (w.alloc (.cells (p.cells (.slice a n c)) 72)) 50 #[.int .i64 0, .int .i64 0, .int .i64 0, .int .i64 0, .int .i64 0, .int .i64 0, .int .i64 0, .slice none 0 0] (by simp)
  have E0 : Ext w _ := ((Ext.refl w).alloc (.cells (p.cells (.slice a n c)) 72)).alloc (.cells #[.int .i64 0, .int .i64 0, .int .i64 0, .int .i64 0, .int .i64 0, .int .i64 0, .int .i64 0, .slice none 0 0] 50)
  have HO := Lib.hid (fun (W : World) => over6_good p n W hg hn)
  have HRD := Lib.hid (fun (W : World) (q : Ext w W) => read_any p.kind a n c xs (val6 p.src p.dst p.kind n) W (hr.ext q) hb hnc hc)
  unfold OpGot at HRD
  unfold OpGot
  generalize val6 p.src p.dst p.kind n = O at *
  generalize Pl.opV p.kind xs O = V at *
  generalize Pl.opQ p.kind xs O = Q at *
  generalize Pl.opD p.kind xs O = D at *
  clear hr hb hg
  unfold Six.v at HO
  go_enter Tryd.func79, Tryd.ntmps79
  go_upto_region 1 with (fail)
  refine at_worldE (fun W => Ext w W ∧ Blk W w.heap.size 72 (p.cells (.slice a n c)) ∧ Blk W (w.heap.size + 1) 50 #[.int .i64 0, .int .i64 0, .int .i64 0, .int .i64 0, .int .i64 0, .int .i64 0, .int .i64 0, .slice none 0 0]) ⟨E0, KP, KR⟩ ?_
  clear E0 KP KR
  rintro W1 ⟨E1, KP, KR⟩
  have ls := KP.p6src
  have lt := KP.p6dst
  obtain ⟨c16, c17, c18⟩ := KP.p6nums
  go_wp2_with ((apply load_by rfl _ _ rfl _ rfl); (focus (with_reducible assumption)))
  refine (HO.out _).mono ?_
  rintro e W2 ⟨rfl, q2⟩
  have E2 := E1.trans q2
  have KP2 := KP.ext q2
  have KR2 := KR.ext q2
  clear ls lt c16 c17 c18 E1 KP KR q2
  obtain ⟨c16, c17, c18⟩ := KP2.p6nums
  go_wp2_with fail
  refine (HRD.out _ E2).mono ?_
  rintro e W3 ⟨a3, n3, c3, rfl, o3, q3⟩
  obtain ⟨st, K3, o4, E4⟩ := seg_ret V (KR2.ext q3) (E2.trans q3) (Nat.le_succ _) KR2.lt o3
  have HO4 := Lib.hid o4
  have HE4 := Lib.hid E4
  clear c16 c17 c18 E2 KP2 KR2 q3 o3 o4 E4
  go_wp2_with ((apply store_by rfl _ _ _ rfl _ rfl); (focus (with_reducible assumption)); (focus rfl))
  refine bodyPost_ret (results_cell2 Tryd.results79 _ _ (w.heap.size + 1) 50 (V.cells (.slice a3 n3 c3)) _ rfl K3 Tryd.underlying50 rfl Tryd.sizeSeg) rfl ⟨a3, n3, c3, rfl, HO4.out, HE4.out⟩

set_option maxRecDepth 100000 in
set_option maxHeartbeats 4000000 in
theorem open4_any (s d t k i : Int) (a : Option Addr) (n c : Nat) (xs : List Int) (w : World) (hg : Pl.Ok4 s d t k i) (hn : n ≤ 320) (hr : Ints .u8 w a n xs) (hb : Pl.IsB xs) (hnc : n ≤ c) (hc : a = none → c = 0) :
    Calls Tryd.prog 85 #[.agg (c4 s d t k i (.slice a n c))] w (OpGot k xs (val4 s d k n) w) := by
  have KP := (Blk.new w 74 (c4 s d t k i (.slice a n c))).alloc (.cells #[.int .i64 0, .int .i64 0, .int .i64 0, .int .i64 0, .int .i64 0, .int .i64 0, .int .i64 0, .slice none 0 0] 50)
  have KR := Blk.at (n := w.heap.size + 1) (w.alloc (.cells (c4 s d t k i (.slice a n c)) 74)) 50 #[.int .i64 0, .int .i64 0, .int .i64 0, .int .i64 0, .int .i64 0, .int .i64 0, .int .i64 0, .slice none 0 0] (by simp)
  have E0 : Ext w _ := ((Ext.refl w).alloc (.cells (c4 s d t k i (.slice a n c)) 74)).alloc (.cells #[.int .i64 0, .int .i64 0, .int .i64 0, .int .i64 0, .int .i64 0, .int .i64 0, .int .i64 0, .slice none 0 0] 50)
  have HO := Lib.hid (fun (W : World) => over4_good s d t k i n W hg hn)
  have HRD := Lib.hid (fun (W : World) (q : Ext w W) => read_any k a n c xs (val4 s d k n) W (hr.ext q) hb hnc hc)
  unfold OpGot at HRD
  unfold OpGot
  generalize val4 s d k n = O at *
  generalize Pl.opV k xs O = V at *
  generalize Pl.opQ k xs O = Q at *
  generalize Pl.opD k xs O = D at *
  clear hr hb hg
  go_enter Tryd.func85, Tryd.ntmps85
  go_upto_region 1 with (fail)
  refine at_worldE (fun W => Ext w W ∧ Blk W w.heap.size 74 (c4 s d t k i (.slice a n c)) ∧ Blk W (w.heap.size + 1) 50 #[.int .i64 0, .int .i64 0, .int .i64 0, .int .i64 0, .int .i64 0, .int .i64 0, .int .i64 0, .slice none 0 0]) ⟨E0, KP, KR⟩ ?_
  clear E0 KP KR
  rintro W1 ⟨E1, KP, KR⟩
  have g0 : W1.cell? ⟨w.heap.size, 0, none⟩ = some (.int .i64 s) := KP.cells 0
  have g1 : W1.cell? ⟨w.heap.size, 1, none⟩ = some (.int .i64 d) := KP.cells 1
  have g3 : W1.cell? ⟨w.heap.size, 3, none⟩ = some (.int .i64 k) := KP.cells 3
  have g5 : W1.cell? ⟨w.heap.size, 5, none⟩ = some (.slice a n c) := KP.cells 5
  go_wp2_with fail
  refine (HO.out _).mono ?_
  rintro e W2 ⟨rfl, q2⟩
  have E2 := E1.trans q2
  have KP2 := KP.ext q2
  have KR2 := KR.ext q2
  clear g0 g1 g3 g5 E1 KP KR q2
  have g3 : W2.cell? ⟨w.heap.size, 3, none⟩ = some (.int .i64 k) := KP2.cells 3
  have g5 : W2.cell? ⟨w.heap.size, 5, none⟩ = some (.slice a n c) := KP2.cells 5
  go_wp2_with fail
  refine (HRD.out _ E2).mono ?_
  rintro e W3 ⟨a3, n3, c3, rfl, o3, q3⟩
  obtain ⟨st, K3, o4, E4⟩ := seg_ret V (KR2.ext q3) (E2.trans q3) (Nat.le_succ _) KR2.lt o3
  have HO4 := Lib.hid o4
  have HE4 := Lib.hid E4
  clear g3 g5 E2 KP2 KR2 q3 o3 o4 E4
  go_wp2_with ((apply store_by rfl _ _ _ rfl _ rfl); (focus (with_reducible assumption)); (focus rfl))
  refine bodyPost_ret (results_cell2 Tryd.results85 _ _ (w.heap.size + 1) 50 (V.cells (.slice a3 n3 c3)) _ rfl K3 Tryd.underlying50 rfl Tryd.sizeSeg) rfl ⟨a3, n3, c3, rfl, HO4.out, HE4.out⟩
end Go.Proofs.YtkjchddidpjjmaaDoor
/- Opening a packet that may be, as the document does: Seg6, Seg4. Conditions: as each theorem states them. -/
namespace Go.Proofs.YtkjchddidpjjmaaDoor
open Go.RowKit
/-- Bytes lie in no block that has no byte. -/
theorem Ints.off {w : World} {a : Option Addr} {n : Nat} {xs : List Int} {R : Nat} {t : TypeId} {cs : Array Value} (h : Ints .u8 w a n xs) (hR : Blk w R t cs) (hcs : ∀ v ∈ cs.toList, ∀ x, v ≠ .int .u8 x) (hn : 0 < n) : ∀ p, a = some p → p.block ≠ R := by
  intro p hp hb
  obtain ⟨b, off, rfl, _, hc⟩ := h.at hn
  cases hp
  have hb' : b = R := hb
  subst hb'
  have h0 := hc 0 hn
  rw [hR.cells] at h0
  have hm : (.int .u8 (xs.getD 0 0) : Value) ∈ cs.toList := by
    rw [← Array.getElem?_toList] at h0
    exact List.mem_of_getElem? h0
  exact hcs _ hm _ rfl
theorem z8_off : ∀ v ∈ (#[.int .i64 0, .int .i64 0, .int .i64 0, .int .i64 0, .int .i64 0, .int .i64 0, .int .i64 0, .slice none 0 0] : Array Value).toList, ∀ x, v ≠ .int .u8 x := by
  intro v hv x
  simp only [List.mem_cons, List.not_mem_nil, or_false] at hv
  rcases hv with rfl | rfl | rfl | rfl | rfl | rfl | rfl | rfl <;> intro h <;> cases h

set_option maxRecDepth 100000 in
set_option maxHeartbeats 4000000 in
theorem rseg6_any (p : P6) (a : Option Addr) (n c : Nat) (xs : List Int) (w : World) (hg : p.good = true) (hn : n ≤ 320) (hr : Ints .u8 w a n xs) (hb : Pl.IsB xs) (hnc : n ≤ c) (hc : a = none → c = 0) :
    Calls Tryd.prog 76 #[p.v (.slice a n c)] w (ROpGot p.kind xs (val6 p.src p.dst p.kind n) w) := by
  have KP := (Blk.new w 72 (p.cells (.slice a n c))).alloc (.cells #[.int .i64 0, .int .i64 0, .int .i64 0, .int .i64 0, .int .i64 0, .int .i64 0, .int .i64 0, .slice none 0 0] 50)
  have KR := Blk.at (n := w.heap.size + 1) (w.alloc (.cells (p.cells (.slice a n c)) 72)) 50 #[.int .i64 0, .int .i64 0, .int .i64 0, .int .i64 0, .int .i64 0, .int .i64 0, .int .i64 0, .slice none 0 0] (by simp)
  have E0 : Ext w _ := ((Ext.refl w).alloc (.cells (p.cells (.slice a n c)) 72)).alloc (.cells #[.int .i64 0, .int .i64 0, .int .i64 0, .int .i64 0, .int .i64 0, .int .i64 0, .int .i64 0, .slice none 0 0] 50)
  by_cases hk : p.kind = 6 ∨ p.kind = 17
  case neg =>
    have k6 : (p.kind != 6) = true := by simp; omega
    have k17 : (p.kind != 17) = true := by simp; omega
    have HQ := Lib.hid (show Pl.opQ p.kind xs (val6 p.src p.dst p.kind n) = 2 by unfold Pl.opQ; rw [if_pos hk])
    have s0 := sto KR ⟨0, 0, 0, 0, 0, 0, 0⟩ none 0 0
    obtain ⟨c16, c17, c18⟩ := KP.p6nums
    clear hk hr hb c16 c18
    go_enter Tryd.func76, Tryd.ntmps76
    go_wp2_with ((apply store_by rfl _ _ _ rfl _ rfl); (focus (with_reducible assumption)); (focus rfl))
    refine bodyPost_ret (results_cell2 Tryd.results76 _ _ (w.heap.size + 1) 50 #[.int .i64 0, .int .i64 0, .int .i64 0, .int .i64 0, .int .i64 0, .int .i64 0, .int .i64 0, .slice none 0 0] _ rfl (KR.row _) Tryd.underlying50 rfl Tryd.sizeSeg) rfl ⟨none, 0, 0, ?_, ?_, E0.row (Nat.le_succ _) _⟩
    · unfold Pl.opV
      rw [HQ.out, if_neg (by decide)]
      rfl
    · unfold Pl.opD
      rw [HQ.out, if_neg (by decide)]
      exact Ints.nil
  obtain ⟨e1, e2, e3⟩ := Pl.op_known (over := val6 p.src p.dst p.kind n) (xs := xs) hk
  have HO := Lib.hid (fun (W : World) => rover6_good p n W hg hn)
  have HRD := Lib.hid (fun (W : World) (q : Ext w W) => rsegOf_any p.kind a n c xs (val6 p.src p.dst p.kind n) W (hr.ext q) hb hnc hc)
  unfold RDecGot at HRD
  unfold ROpGot
  rw [e1, e2, e3]
  generalize val6 p.src p.dst p.kind n = O at *
  generalize Pl.segV p.kind xs O = V at *
  generalize Pl.segQ p.kind xs O = Q at *
  generalize Pl.segD p.kind xs O = D at *
  have hkk : (p.kind != 6) = false ∨ ((p.kind != 6) = true ∧ (p.kind != 17) = false) := by
    rcases hk with h | h
    · exact .inl (by rw [h]; rfl)
    · exact .inr ⟨by rw [h]; rfl, by rw [h]; rfl⟩
  clear hr hb hg e1 e2 e3 hk
  unfold Six.v at HO
  go_enter Tryd.func76, Tryd.ntmps76
  go_upto_region 1 with (fail)
  refine at_worldE (fun W => Ext w W ∧ Blk W w.heap.size 72 (p.cells (.slice a n c)) ∧ Blk W (w.heap.size + 1) 50 #[.int .i64 0, .int .i64 0, .int .i64 0, .int .i64 0, .int .i64 0, .int .i64 0, .int .i64 0, .slice none 0 0]) ⟨E0, KP, KR⟩ ?_
  clear E0 KP KR
  rintro W1 ⟨E1, KP, KR⟩
  have ls := KP.p6src
  have lt := KP.p6dst
  obtain ⟨c16, c17, c18⟩ := KP.p6nums
  rcases hkk with hkk | ⟨hkk, hkl⟩
  all_goals
    go_wp2_with ((apply load_by rfl _ _ rfl _ rfl); (focus (with_reducible assumption)))
    refine (HO.out _).mono ?_
    rintro e W2 ⟨rfl, q2⟩
    have E2 := E1.trans q2
    have KP2 := KP.ext q2
    have KR2 := KR.ext q2
    clear ls lt c16 c17 c18 E1 KP KR q2
    obtain ⟨c16, c17, c18⟩ := KP2.p6nums
    go_wp2_with fail
    refine (HRD.out _ E2).mono ?_
    rintro e W3 ⟨a3, n3, c3, rfl, r3, q3⟩
    have KR3 := KR2.ext q3
    have E3 := E2.trans q3
    have hoff : 0 < n3 → ∀ p, a3 = some p → p.block ≠ w.heap.size + 1 := fun h0 => r3.off KR3 z8_off h0
    obtain ⟨st, K3, r4, E4⟩ := seg_retI (w := w) (c := c3) V KR3 E3 (Nat.le_succ _) r3 hoff
    have HR4 := Lib.hid r4
    have HE4 := Lib.hid E4
    clear c16 c17 c18 r4 E4
    go_wp2_with ((apply store_by rfl _ _ _ rfl _ rfl); (focus (with_reducible assumption)); (focus rfl))
    refine bodyPost_ret (results_cell2 Tryd.results76 _ _ (w.heap.size + 1) 50 (V.cells (.slice a3 n3 c3)) _ rfl K3 Tryd.underlying50 rfl Tryd.sizeSeg) rfl ⟨a3, n3, c3, rfl, HR4.out, HE4.out⟩

set_option maxRecDepth 100000 in
set_option maxHeartbeats 4000000 in
theorem rseg4_any (s d t k i : Int) (a : Option Addr) (n c : Nat) (xs : List Int) (w : World) (hg : Pl.Ok4 s d t k i) (hn : n ≤ 320) (hr : Ints .u8 w a n xs) (hb : Pl.IsB xs) (hnc : n ≤ c) (hc : a = none → c = 0) :
    Calls Tryd.prog 82 #[.agg (c4 s d t k i (.slice a n c))] w (ROpGot k xs (val4 s d k n) w) := by
  have KP := (Blk.new w 74 (c4 s d t k i (.slice a n c))).alloc (.cells #[.int .i64 0, .int .i64 0, .int .i64 0, .int .i64 0, .int .i64 0, .int .i64 0, .int .i64 0, .slice none 0 0] 50)
  have KR := Blk.at (n := w.heap.size + 1) (w.alloc (.cells (c4 s d t k i (.slice a n c)) 74)) 50 #[.int .i64 0, .int .i64 0, .int .i64 0, .int .i64 0, .int .i64 0, .int .i64 0, .int .i64 0, .slice none 0 0] (by simp)
  have E0 : Ext w _ := ((Ext.refl w).alloc (.cells (c4 s d t k i (.slice a n c)) 74)).alloc (.cells #[.int .i64 0, .int .i64 0, .int .i64 0, .int .i64 0, .int .i64 0, .int .i64 0, .int .i64 0, .slice none 0 0] 50)
  by_cases hk : k = 6 ∨ k = 17
  case neg =>
    have k6 : (k != 6) = true := by simp; omega
    have k17 : (k != 17) = true := by simp; omega
    have HQ := Lib.hid (show Pl.opQ k xs (val4 s d k n) = 2 by unfold Pl.opQ; rw [if_pos hk])
    have s0 := sto KR ⟨0, 0, 0, 0, 0, 0, 0⟩ none 0 0
    clear hk hr hb
    go_enter Tryd.func82, Tryd.ntmps82
    go_wp2_with ((apply store_by rfl _ _ _ rfl _ rfl); (focus (with_reducible assumption)); (focus rfl))
    refine bodyPost_ret (results_cell2 Tryd.results82 _ _ (w.heap.size + 1) 50 #[.int .i64 0, .int .i64 0, .int .i64 0, .int .i64 0, .int .i64 0, .int .i64 0, .int .i64 0, .slice none 0 0] _ rfl (KR.row _) Tryd.underlying50 rfl Tryd.sizeSeg) rfl ⟨none, 0, 0, ?_, ?_, E0.row (Nat.le_succ _) _⟩
    · unfold Pl.opV
      rw [HQ.out, if_neg (by decide)]
      rfl
    · unfold Pl.opD
      rw [HQ.out, if_neg (by decide)]
      exact Ints.nil
  obtain ⟨e1, e2, e3⟩ := Pl.op_known (over := val4 s d k n) (xs := xs) hk
  have HO := Lib.hid (fun (W : World) => rover4_good s d t k i n W hg hn)
  have HRD := Lib.hid (fun (W : World) (q : Ext w W) => rsegOf_any k a n c xs (val4 s d k n) W (hr.ext q) hb hnc hc)
  unfold RDecGot at HRD
  unfold ROpGot
  rw [e1, e2, e3]
  generalize val4 s d k n = O at *
  generalize Pl.segV k xs O = V at *
  generalize Pl.segQ k xs O = Q at *
  generalize Pl.segD k xs O = D at *
  have hkk : (k != 6) = false ∨ ((k != 6) = true ∧ (k != 17) = false) := by
    rcases hk with h | h
    · exact .inl (by rw [h]; rfl)
    · exact .inr ⟨by rw [h]; rfl, by rw [h]; rfl⟩
  clear hr hb hg e1 e2 e3 hk
  go_enter Tryd.func82, Tryd.ntmps82
  go_upto_region 1 with (fail)
  refine at_worldE (fun W => Ext w W ∧ Blk W w.heap.size 74 (c4 s d t k i (.slice a n c)) ∧ Blk W (w.heap.size + 1) 50 #[.int .i64 0, .int .i64 0, .int .i64 0, .int .i64 0, .int .i64 0, .int .i64 0, .int .i64 0, .slice none 0 0]) ⟨E0, KP, KR⟩ ?_
  clear E0 KP KR
  rintro W1 ⟨E1, KP, KR⟩
  have g0 : W1.cell? ⟨w.heap.size, 0, none⟩ = some (.int .i64 s) := KP.cells 0
  have g1 : W1.cell? ⟨w.heap.size, 1, none⟩ = some (.int .i64 d) := KP.cells 1
  have g3 : W1.cell? ⟨w.heap.size, 3, none⟩ = some (.int .i64 k) := KP.cells 3
  have g5 : W1.cell? ⟨w.heap.size, 5, none⟩ = some (.slice a n c) := KP.cells 5
  rcases hkk with hkk | ⟨hkk, hkl⟩
  all_goals
    go_wp2_with fail
    refine (HO.out _).mono ?_
    rintro e W2 ⟨rfl, q2⟩
    have E2 := E1.trans q2
    have KP2 := KP.ext q2
    have KR2 := KR.ext q2
    clear g0 g1 g3 g5 E1 KP KR q2
    have g3 : W2.cell? ⟨w.heap.size, 3, none⟩ = some (.int .i64 k) := KP2.cells 3
    have g5 : W2.cell? ⟨w.heap.size, 5, none⟩ = some (.slice a n c) := KP2.cells 5
    go_wp2_with fail
    refine (HRD.out _ E2).mono ?_
    rintro e W3 ⟨a3, n3, c3, rfl, r3, q3⟩
    have KR3 := KR2.ext q3
    have E3 := E2.trans q3
    have hoff : 0 < n3 → ∀ p, a3 = some p → p.block ≠ w.heap.size + 1 := fun h0 => r3.off KR3 z8_off h0
    obtain ⟨st, K3, r4, E4⟩ := seg_retI (w := w) (c := c3) V KR3 E3 (Nat.le_succ _) r3 hoff
    have HR4 := Lib.hid r4
    have HE4 := Lib.hid E4
    clear g3 g5 r4 E4
    go_wp2_with ((apply store_by rfl _ _ _ rfl _ rfl); (focus (with_reducible assumption)); (focus rfl))
    refine bodyPost_ret (results_cell2 Tryd.results82 _ _ (w.heap.size + 1) 50 (V.cells (.slice a3 n3 c3)) _ rfl K3 Tryd.underlying50 rfl Tryd.sizeSeg) rfl ⟨a3, n3, c3, rfl, HR4.out, HE4.out⟩
end Go.Proofs.YtkjchddidpjjmaaDoor
/- The document's SixAt: an address of sixteen bytes. Conditions: as each theorem states them. -/
namespace Go.Proofs.YtkjchddidpjjmaaDoor
open Go.RowKit
theorem sixAt_take (l : List Int) : sixAt (l.take 16) = sixAt l := by
  unfold sixAt Pl.at2
  simp [List.getD]
set_option maxHeartbeats 1600000 in
theorem rsixAt_any (b off n c : Nat) (xs : List Int) (w : World) (hx : Ints .u8 w (some ⟨b, off, none⟩) n xs) (hI : Pl.IsB xs) (hn : 16 ≤ n) :
    Calls Tryd.prog 52 #[.slice (some ⟨b, off, none⟩) n c] w fun e w' => e = .returned (sixAt xs).v ∧ Ext w w' := by
  obtain ⟨b', off', hbo, hbl, hc⟩ := hx.at (by omega)
  cases hbo
  have HC := Lib.hid hc
  have HI := Lib.hid hI
  clear hc hI hx
  go_enter Tryd.func52, Tryd.ntmps52
  go_wp2
  go_loopw [4] (fun i wr => ∃ k : Nat, k ≤ 8 ∧ i = .int .i64 k ∧ Below w.heap.size w wr ∧ (∀ j, wr.frozen? ⟨w.heap.size + 1, j, none⟩ = false) ∧ (∀ j, j < 8 → wr.cell? ⟨w.heap.size + 1, j, none⟩ = some (.int .i64 (if j < k then Pl.at2 xs (2 * j) else 0))) ∧ Blk wr w.heap.size 23 #[.int .i64 0, .int .i64 0, .int .i64 0, .int .i64 0, .int .i64 0, .int .i64 0, .int .i64 0, .int .i64 0]) (fun i _ => 8 - (intOf i).toNat)
  case atStart =>
    refine ⟨0, Nat.zero_le _, rfl, by go_grown, fun j => (Blk.at _ _ _ (by simp)).free j, fun j hj => ?_, (Blk.new _ _ _).alloc _⟩
    have h : j = 0 ∨ j = 1 ∨ j = 2 ∨ j = 3 ∨ j = 4 ∨ j = 5 ∨ j = 6 ∨ j = 7 := by omega
    rcases h with rfl | rfl | rfl | rfl | rfl | rfl | rfl | rfl <;> exact (Blk.at _ _ _ (by simp)).cells _
  case round =>
    obtain ⟨k, hk, rfl, hB, hF, hA, hK⟩ := hrel
    have hsz := hK.lt
    by_cases hlt : k < 8
    · have hb : b < wr.heap.size := by have := hB.size; omega
      have c0 : wr.cell? ⟨b, off + 2 * k, none⟩ = some (.int .u8 (xs.getD (2 * k) 0)) := (hB.cell (p := ⟨b, off + 2 * k, none⟩) hbl).trans (HC.out _ (by omega))
      have c1 : wr.cell? ⟨b, off + (2 * k + 1), none⟩ = some (.int .u8 (xs.getD (2 * k + 1) 0)) := (hB.cell (p := ⟨b, off + (2 * k + 1), none⟩) hbl).trans (HC.out _ (by omega))
      have hs := hA k hlt
      rw [if_neg (by omega)] at hs
      have hf := hF k
      obtain ⟨b00, b01⟩ := HI.out.getD (2 * k)
      obtain ⟨b10, b11⟩ := HI.out.getD (2 * k + 1)
      have hat : Pl.at2 xs (2 * k) = 256 * xs.getD (2 * k) 0 + xs.getD (2 * k + 1) 0 := by unfold Pl.at2; omega
      generalize xs.getD (2 * k) 0 = y0 at *
      generalize xs.getD (2 * k + 1) 0 = y1 at *
      have HA := Lib.hid hA
      have HF := Lib.hid hF
      have HT := Lib.hid hat
      clear hA hF hat
      have ew3 : IntKind.i64.wrap (256 * y0 + y1) = 256 * y0 + y1 := IntWalk.i64_in _ (by omega)
      have ew0 : IntKind.i64.wrap y0 = y0 := IntWalk.i64_in _ (by omega)
      have ew1 : IntKind.i64.wrap y1 = y1 := IntWalk.i64_in _ (by omega)
      have ew2 : IntKind.i64.wrap (256 * y0) = 256 * y0 := IntWalk.i64_in _ (by omega)
      have i0 : (2 : Int) * (k : Int) < (n : Int) := by omega
      have i1 : (2 : Int) * (k : Int) + 1 < (n : Int) := by omega
      go_wp2_with fail
      go_region
      go_wp2
      go_roundw
      case rel =>
        refine ⟨k + 1, by omega, by go_num, ?_, ?_, ?_, ?_⟩
        · exact (hB.setCell (p := ⟨w.heap.size + 1, k, none⟩) (by show _ ≤ w.heap.size + 1; omega) _).drew
        · exact fun j => (World.frozen?_setCell ..).trans (HF.out j)
        · intro j hj
          by_cases hjk : j = k
          · subst hjk
            rw [if_pos (by omega), HT.out]
            exact World.cell?_setCell_same' _ _ _ (by rw [hs]; first | rfl | done)
          · have := HA.out j hj
            have e : (if j < k + 1 then Pl.at2 xs (2 * j) else 0) = if j < k then Pl.at2 xs (2 * j) else 0 := by
              by_cases h : j < k
              · rw [if_pos h, if_pos (by omega)]
              · rw [if_neg h, if_neg (by omega)]
            rw [e]
            exact (World.cell?_setCell_other _ _ _ _ (by simp; try omega)).trans this
        · exact (hK.far (by show w.heap.size ≠ w.heap.size + 1; omega) _).drew
      case measure => simp [intOf]; omega
    · obtain rfl : k = 8 := by omega
      have q0 := hA 0 (by omega)
      have q1 := hA 1 (by omega)
      have q2 := hA 2 (by omega)
      have q3 := hA 3 (by omega)
      have q4 := hA 4 (by omega)
      have q5 := hA 5 (by omega)
      have q6 := hA 6 (by omega)
      have q7 := hA 7 (by omega)
      have rc := hK.cells
      have rf := hK.free
      rw [if_pos (by omega)] at q0 q1 q2 q3 q4 q5 q6 q7
      clear hA
      go_wp2
      have r8 : Blk _ w.heap.size 23 (sixAt xs).cells := (((((((hK.put 0 (.int .i64 (Pl.at2 xs 0))).put 1 (.int .i64 (Pl.at2 xs 2))).put 2 (.int .i64 (Pl.at2 xs 4))).put 3 (.int .i64 (Pl.at2 xs 6))).put 4 (.int .i64 (Pl.at2 xs 8))).put 5 (.int .i64 (Pl.at2 xs 10))).put 6 (.int .i64 (Pl.at2 xs 12))).put 7 (.int .i64 (Pl.at2 xs 14))
      refine bodyPost_ret (v := (sixAt xs).v) (results_cell_row Tryd.results52 _ _ w.heap.size 23 _ (0, 0) _ rfl r8 Tryd.underlying23 rfl Tryd.size6) rfl ⟨rfl, ?_⟩
      unfold Ext
      go_grown
end Go.Proofs.YtkjchddidpjjmaaDoor
/- A part of bytes, under one name. Conditions: as each lemma states them. -/
namespace Go.Proofs.YtkjchddidpjjmaaDoor
open Go.RowKit
theorem Tryd.elemBytes : Tryd.prog.elem 40 = 5 := by kernel_rfl
theorem Tryd.sizeByte : ∀ w : World, (sizeOf 5).run Tryd.prog w = .ok 1 w := fun w => by kernel_rfl

/-- x[lo:hi]. -/
theorem slice_bytes (a : Option Addr) (n c lo len : Nat) (i j : Int) (hi0 : i = lo) (hj0 : j = ((lo + len : Nat) : Int)) (hhi : lo + len ≤ n) (hnc : n ≤ c) (hn : a = none → c = 0) :
    ∃ AA cc, (∀ (w : World) (xs : List Int), Ints .u8 w a n xs → Ints .u8 w AA len ((xs.drop lo).take len)) ∧ (AA = none → cc = 0) ∧ len ≤ cc ∧
      ∀ W : World, (Instr.slice 40 (.slice a n c) (some (.int .i64 i)) (some (.int .i64 j)) none).run Tryd.prog W = .ok (.slice AA len cc) W := by
  subst hi0 hj0
  refine ⟨if c = lo then a else a.map (·.add (lo * 1)), c - lo, fun w xs h => ?_, fun h => ?_, by omega, fun W => ?_⟩
  · by_cases hz : len = 0
    · exact ⟨by rw [List.length_take, List.length_drop, h.1]; omega, .inl hz⟩
    · obtain ⟨b, off, rfl, _, _⟩ := h.at (by omega)
      rw [if_neg (by omega), Option.map_some, Addr.add_lit, Nat.mul_one]
      have := h.sub lo (lo + len) (by omega) hhi
      rwa [Nat.add_sub_cancel_left] at this
  · cases a with
    | none => have := hn rfl; omega
    | some p =>
      by_cases hc : c = lo
      · rw [if_pos hc] at h; cases h
      · rw [if_neg hc] at h; cases h
  · rw [run_slice_lh W 40 a n c (by rw [Tryd.elemBytes]; exact Tryd.underlying40) .i64 .i64 (lo : Int) ((lo + len : Nat) : Int) (by omega) (by omega) (by omega), Tryd.elemBytes, Tryd.sizeByte]
    simp only [Result.andThen_ok, sliced, Int.toNat_natCast, Nat.add_sub_cancel_left]
/-- What is owned, read where it is handed on; nil has no room. -/
theorem Own.readn {w : World} {B : Nat} {v : Value} {xs : List Int} (h : Own w B v xs) : ∃ a n cap, v = .slice a n cap ∧ n ≤ cap ∧ Ints .u8 w a n xs ∧ (a = none → cap = 0) := by
  have h0 := h
  rcases h.2 with ⟨rfl, hn⟩ | ⟨g, cap, cur, rfl, _⟩
  · obtain rfl : xs = [] := List.length_eq_zero_iff.1 hn
    exact ⟨none, 0, 0, rfl, Nat.le_refl _, Ints.nil, fun _ => rfl⟩
  · obtain ⟨a, n, cap', hv, hc, hi⟩ := h0.read
    cases hv
    exact ⟨_, _, _, rfl, hc, hi, fun h => by cases h⟩
theorem only_trans {a b c : World} {g : Nat} (h : a.grownBy b (some g)) (k : b.grownBy c (some g)) : a.grownBy c (some g) :=
  ⟨k.os.trans h.os, k.tape.trans h.tape, k.output.trans h.output, Nat.le_trans h.size k.size, fun i hi hne => (k.block i (Nat.lt_of_lt_of_le hi h.size) hne).trans (h.block i hi hne)⟩
theorem only_ext {a b c : World} {g : Nat} (h : a.grownBy b (some g)) (k : Ext b c) : a.grownBy c (some g) := only_trans h ⟨k.os, k.tape, k.output, k.size, fun i hi _ => k.block i hi⟩
theorem getD_all {xs : List Int} {P : Int → Prop} (h : ∀ x ∈ xs, P x) (h0 : P 0) (k : Nat) : P (xs.getD k 0) := by
  by_cases hk : k < xs.length
  · rw [List.getD_eq_getElem?_getD, List.getElem?_eq_getElem hk]
    exact h _ (List.getElem_mem hk)
  · rw [List.getD_eq_getElem?_getD, List.getElem?_eq_none (by omega)]
    exact h0
end Go.Proofs.YtkjchddidpjjmaaDoor
/- The document's Decoded6. Conditions: as each theorem states them. -/
namespace Go.Proofs.YtkjchddidpjjmaaDoor
open Go.RowKit
theorem Ext.drawn {a b w : World} (h : Ext a b) (e : ∃ q, w = b.drewN q) : Ext a w ∧ Ext b w := by
  obtain ⟨q, rfl⟩ := e
  exact ⟨h.drewN q, (Ext.refl b).drewN q⟩
theorem sto6l {w : World} {R : Nat} (k : Blk w R 72 #[.int .i64 0, .int .i64 0, .int .i64 0, .int .i64 0, .int .i64 0, .int .i64 0, .int .i64 0, .int .i64 0, .int .i64 0, .int .i64 0, .int .i64 0, .int .i64 0, .int .i64 0, .int .i64 0, .int .i64 0, .int .i64 0, .int .i64 0, .int .i64 0, .slice none 0 0]) (p : P6) (a : Option Addr) (n c : Nat) :
    (Instr.storeAt 72 (.pointer (some ⟨R, 0, none⟩)) (.agg (p.cells (.slice a n c)))).run Tryd.prog w = .ok () (w.setRow R (p.cells (.slice a n c))) := k.store rfl Tryd.sizeP6 (p.one a n c)

/-- What Decoded6 gives of bytes that are no packet. -/
def RBad6 (e : Ending) : Prop := e = .returned (.tuple #[.agg #[.int .i64 0, .int .i64 0, .int .i64 0, .int .i64 0, .int .i64 0, .int .i64 0, .int .i64 0, .int .i64 0, .int .i64 0, .int .i64 0, .int .i64 0, .int .i64 0, .int .i64 0, .int .i64 0, .int .i64 0, .int .i64 0, .int .i64 0, .int .i64 0, .slice none 0 0], .int .i64 5])

end Go.Proofs.YtkjchddidpjjmaaDoor
/- Closing a packet: cross.Close4, cross.Close6. Conditions: as each theorem states them (the segment and the addresses may be). -/
namespace Go.Proofs.YtkjchddidpjjmaaDoor
open Go.RowKit
namespace Pl
theorem segSize_le (k : Int) : segSize k ≤ 20 := by unfold segSize; split <;> omega
end Pl
/-- What stands over a segment of n bytes between fours. -/
def ov4 (s : Sg) (src dst : Int) (n : Nat) : Int := val4 src dst s.kind ((Pl.segSize s.kind : Int) + (n : Int))
def ov6 (s : Sg) (src dst : Six) (n : Nat) : Int := val6 src dst s.kind ((Pl.segSize s.kind : Int) + (n : Int))
def body4 (s : Sg) (src dst : Int) (xs : List Int) : List Int := Pl.segBytes s (Pl.segCheck s (ov4 s src dst xs.length) xs) xs
def body6 (s : Sg) (src dst : Six) (xs : List Int) : List Int := Pl.segBytes s (Pl.segCheck s (ov6 s src dst xs.length) xs) xs
theorem ok4_seg {s : Sg} {src dst : Int} {n : Nat} (hok : Pl.SegOk s n) (hs : 0 ≤ src ∧ src < 4294967296) (hd : 0 ≤ dst ∧ dst < 4294967296) : ok4 src dst s.kind ((Pl.segSize s.kind : Int) + (n : Int)) = true := by
  have h1 : w32 src = true := by unfold w32; simp; omega
  have h2 : w32 dst = true := by unfold w32; simp; omega
  have h3 := Pl.segSize_le s.kind
  have h4 := hok.2.2.2.2.2.2.2.2
  have h5 := hok.1
  unfold ok4 okO w8
  rw [h1, h2]
  simp
  omega
theorem ok6_seg {s : Sg} {src dst : Six} {n : Nat} (hok : Pl.SegOk s n) (hs : okS src = true) (hd : okS dst = true) : ok6 src dst s.kind ((Pl.segSize s.kind : Int) + (n : Int)) = true := by
  have h3 := Pl.segSize_le s.kind
  have h4 := hok.2.2.2.2.2.2.2.2
  have h5 := hok.1
  unfold ok6 okO w8
  rw [hs, hd]
  simp
  omega
theorem over4_seg (s : Sg) (src dst : Int) (n : Nat) (w : World) (hok : Pl.SegOk s n) (hs : 0 ≤ src ∧ src < 4294967296) (hd : 0 ≤ dst ∧ dst < 4294967296) :
    Calls Tryd.prog 99 #[.int .i64 src, .int .i64 dst, .int .i64 s.kind, .int .i64 ((Pl.segSize s.kind : Int) + (n : Int))] w fun e w' => e = .returned (.tuple #[.int .i64 (ov4 s src dst n), .nilIface]) ∧ Ext w w' := by
  have := over4_any src dst s.kind ((Pl.segSize s.kind : Int) + (n : Int)) w
  rw [ok4_seg hok hs hd] at this
  exact this
theorem over6_seg (s : Sg) (src dst : Six) (n : Nat) (w : World) (hok : Pl.SegOk s n) (hs : okS src = true) (hd : okS dst = true) :
    Calls Tryd.prog 43 #[src.v, dst.v, .int .i64 s.kind, .int .i64 ((Pl.segSize s.kind : Int) + (n : Int))] w fun e w' => e = .returned (.tuple #[.int .i64 (ov6 s src dst n), .nilIface]) ∧ Ext w w' := by
  have := over6_any src dst s.kind ((Pl.segSize s.kind : Int) + (n : Int)) w
  rw [ok6_seg hok hs hd] at this
  exact this
theorem enc_seg (s : Sg) (a : Option Addr) (n c : Nat) (xs : List Int) (over : Int) (w : World) (hok : Pl.SegOk s n) (hr : Ints .u8 w a n xs) (hb : Pl.IsB xs) (ho : Pl.Word over) :
    Calls Tryd.prog 32 #[s.v (.slice a n c), .int .i64 over] w fun e w' => ∃ a' n' c', e = .returned (.tuple #[.slice a' n' c', .nilIface]) ∧ Own w' w.heap.size (.slice a' n' c') (Pl.segBytes s (Pl.segCheck s over xs) xs) ∧ Ext w w' := by
  have hF : Pl.encF s over xs.length = 0 := Pl.encF_ok (by rw [hr.len]; exact hok) ho
  refine (sEncode_any s a n c xs over w hr hb).mono ?_
  rintro e w' ⟨v, rfl, o, q⟩
  unfold Pl.encB at o
  rw [hF, if_pos rfl] at o
  rw [hF]
  obtain ⟨a', n', c', rfl, _, _⟩ := o.read
  exact ⟨a', n', c', rfl, o, q⟩
set_option maxRecDepth 100000 in
set_option maxHeartbeats 4000000 in
theorem close4_any (s : Sg) (src dst ttl : Int) (a : Option Addr) (n c : Nat) (xs : List Int) (w : World) (hok : Pl.SegOk s n) (hs : 0 ≤ src ∧ src < 4294967296) (hd : 0 ≤ dst ∧ dst < 4294967296) (hr : Ints .u8 w a n xs) (hb : Pl.IsB xs) :
    Calls Tryd.prog 80 #[s.v (.slice a n c), .int .i64 src, .int .i64 dst, .int .i64 ttl] w fun e w' => ∃ a' n' c', e = .returned (.tuple #[pk4 src dst ttl s.kind 0 (.slice a' n' c'), .nilIface]) ∧ Own w' w.heap.size (.slice a' n' c') (body4 s src dst xs) ∧ Ext w w' := by
  have KS := (Blk.new w 50 (s.cells (.slice a n c))).alloc (.cells (c4 0 0 0 0 0 (.slice none 0 0)) 74)
  have KR := Blk.at (n := w.heap.size + 1) (w.alloc (.cells (s.cells (.slice a n c)) 50)) 74 (c4 0 0 0 0 0 (.slice none 0 0)) (by simp)
  have E0 : Ext w _ := ((Ext.refl w).alloc (.cells (s.cells (.slice a n c)) 50)).alloc (.cells (c4 0 0 0 0 0 (.slice none 0 0)) 74)
  have HOK := Lib.hid hok
  have HR := Lib.hid hr
  have HB := Lib.hid hb
  have HL := Lib.hid hr.len
  have HO4 := Lib.hid (fun (W : World) => over4_seg s src dst n W hok hs hd)
  have h3 := Pl.segSize_le s.kind
  have h4 := hok.2.2.2.2.2.2.2.2
  have HBD := Lib.hid (show Pl.segBytes s (Pl.segCheck s (ov4 s src dst n) xs) xs = body4 s src dst xs by unfold body4; rw [HL.out])
  have HWO := Lib.hid (show Pl.Word (ov4 s src dst n) from val4_word)
  generalize ov4 s src dst n = O at *
  obtain ⟨c0, c1, c2, c3, c4', c5, c6, c7⟩ := KS.sg
  clear c1 c2 c3 c4' c5 c6 hok hr hb
  go_enter Tryd.func80, Tryd.ntmps80
  go_wp2_with fail
  refine (head_any s.kind _ HOK.out.1).mono ?_
  rintro e w' ⟨rfl, rfl⟩
  generalize Pl.segSize s.kind = Z at *
  have ew : IntKind.i64.wrap ((Z : Int) + (n : Int)) = (Z : Int) + (n : Int) := IntWalk.i64_in _ (by omega)
  go_wp2_with fail
  refine (HO4.out _).mono ?_
  rintro e W2 ⟨rfl, q2⟩
  have K2 := KS.ext q2
  have KR2 := KR.ext q2
  have E2 := E0.trans q2
  have ld := K2.seg
  clear c0 c7 KS KR E0 q2
  go_wp2_with ((apply load_by rfl _ _ rfl _ rfl); (focus (with_reducible assumption)))
  refine (enc_seg s a n c xs O W2 HOK.out (HR.out.ext E2) HB.out HWO.out).mono ?_
  rintro e W3 ⟨a3, n3, d3, rfl, o3, q3⟩
  rw [HBD.out] at o3
  have K3 := K2.ext q3
  have KR3 := KR2.ext q3
  have E3 := E2.trans q3
  have hz2 := KR2.lt
  obtain ⟨c0, c1, c2, c3, c4', c5, c6, c7⟩ := K3.sg
  have st := sto4 KR3 src dst ttl s.kind 0 a3 n3 d3
  have KF := KR3.row (c4 src dst ttl s.kind 0 (.slice a3 n3 d3))
  have o4 := (o3.rowOff (k := w.heap.size + 1) (fun j hj => by have := (o3.lt j hj).1; omega) (c4 src dst ttl s.kind 0 (.slice a3 n3 d3))).mono E2.size
  have E4 := E3.row (k := w.heap.size + 1) (Nat.le_succ _) (c4 src dst ttl s.kind 0 (.slice a3 n3 d3))
  have HO := Lib.hid o4
  have HE := Lib.hid E4
  clear c1 c2 c3 c4' c5 c6 c7 K2 KR2 E2 q3 o3 E3 K3 KR3 o4 E4 ld
  go_wp2_with ((apply store_by rfl _ _ _ rfl _ rfl); (focus (with_reducible assumption)); (focus rfl))
  refine bodyPost_ret (results_cell2 Tryd.results80 _ _ (w.heap.size + 1) 74 (c4 src dst ttl s.kind 0 (.slice a3 n3 d3)) _ rfl KF Tryd.underlying74 rfl Tryd.sizeP4) rfl ⟨a3, n3, d3, rfl, HO.out, HE.out⟩

set_option maxRecDepth 100000 in
set_option maxHeartbeats 4000000 in
theorem close6_any (s : Sg) (src dst : Six) (hop : Int) (a : Option Addr) (n c : Nat) (xs : List Int) (w : World) (hok : Pl.SegOk s n) (hs : okS src = true) (hd : okS dst = true) (hr : Ints .u8 w a n xs) (hb : Pl.IsB xs) :
    Calls Tryd.prog 86 #[s.v (.slice a n c), src.v, dst.v, .int .i64 hop] w fun e w' => ∃ a' n' c', e = .returned (.tuple #[(⟨src, dst, hop, s.kind⟩ : P6).v (.slice a' n' c'), .nilIface]) ∧ Own w' w.heap.size (.slice a' n' c') (body6 s src dst xs) ∧ Ext w w' := by
  have KS := (((Blk.new w 50 (s.cells (.slice a n c))).alloc (.cells src.cells 23)).alloc (.cells dst.cells 23)).alloc (.cells #[.int .i64 0, .int .i64 0, .int .i64 0, .int .i64 0, .int .i64 0, .int .i64 0, .int .i64 0, .int .i64 0, .int .i64 0, .int .i64 0, .int .i64 0, .int .i64 0, .int .i64 0, .int .i64 0, .int .i64 0, .int .i64 0, .int .i64 0, .int .i64 0, .slice none 0 0] 72)
  have KA := ((Blk.at (n := w.heap.size + 1) (w.alloc (.cells (s.cells (.slice a n c)) 50)) 23 src.cells (by simp)).alloc (.cells dst.cells 23)).alloc (.cells #[.int .i64 0, .int .i64 0, .int .i64 0, .int .i64 0, .int .i64 0, .int .i64 0, .int .i64 0, .int .i64 0, .int .i64 0, .int .i64 0, .int .i64 0, .int .i64 0, .int .i64 0, .int .i64 0, .int .i64 0, .int .i64 0, .int .i64 0, .int .i64 0, .slice none 0 0] 72)
  have KB := (Blk.at (n := w.heap.size + 2) ((w.alloc (.cells (s.cells (.slice a n c)) 50)).alloc (.cells src.cells 23)) 23 dst.cells (by simp)).alloc (.cells #[.int .i64 0, .int .i64 0, .int .i64 0, .int .i64 0, .int .i64 0, .int .i64 0, .int .i64 0, .int .i64 0, .int .i64 0, .int .i64 0, .int .i64 0, .int .i64 0, .int .i64 0, .int .i64 0, .int .i64 0, .int .i64 0, .int .i64 0, .int .i64 0, .slice none 0 0] 72)
  have KR := Blk.at (n := w.heap.size + 3) (((w.alloc (.cells (s.cells (.slice a n c)) 50)).alloc (.cells src.cells 23)).alloc (.cells dst.cells 23)) 72 #[.int .i64 0, .int .i64 0, .int .i64 0, .int .i64 0, .int .i64 0, .int .i64 0, .int .i64 0, .int .i64 0, .int .i64 0, .int .i64 0, .int .i64 0, .int .i64 0, .int .i64 0, .int .i64 0, .int .i64 0, .int .i64 0, .int .i64 0, .int .i64 0, .slice none 0 0] (by simp)
  have E0 : Ext w _ := ((((Ext.refl w).alloc (.cells (s.cells (.slice a n c)) 50)).alloc (.cells src.cells 23)).alloc (.cells dst.cells 23)).alloc (.cells #[.int .i64 0, .int .i64 0, .int .i64 0, .int .i64 0, .int .i64 0, .int .i64 0, .int .i64 0, .int .i64 0, .int .i64 0, .int .i64 0, .int .i64 0, .int .i64 0, .int .i64 0, .int .i64 0, .int .i64 0, .int .i64 0, .int .i64 0, .int .i64 0, .slice none 0 0] 72)
  have HOK := Lib.hid hok
  have HR := Lib.hid hr
  have HB := Lib.hid hb
  have HL := Lib.hid hr.len
  have HO6 := Lib.hid (fun (W : World) => over6_seg s src dst n W hok hs hd)
  have h3 := Pl.segSize_le s.kind
  have h4 := hok.2.2.2.2.2.2.2.2
  have HBD := Lib.hid (show Pl.segBytes s (Pl.segCheck s (ov6 s src dst n) xs) xs = body6 s src dst xs by unfold body6; rw [HL.out])
  have HWO := Lib.hid (show Pl.Word (ov6 s src dst n) from val6_word)
  generalize ov6 s src dst n = O at *
  clear hok hr hb hs hd
  unfold Six.v at *
  go_enter Tryd.func86, Tryd.ntmps86
  go_upto_region 1 with (fail)
  refine at_worldE (fun W => Ext w W ∧ Blk W w.heap.size 50 (s.cells (.slice a n c)) ∧ Blk W (w.heap.size + 1) 23 src.cells ∧ Blk W (w.heap.size + 2) 23 dst.cells ∧ Blk W (w.heap.size + 3) 72 #[.int .i64 0, .int .i64 0, .int .i64 0, .int .i64 0, .int .i64 0, .int .i64 0, .int .i64 0, .int .i64 0, .int .i64 0, .int .i64 0, .int .i64 0, .int .i64 0, .int .i64 0, .int .i64 0, .int .i64 0, .int .i64 0, .int .i64 0, .int .i64 0, .slice none 0 0]) ⟨E0, KS, KA, KB, KR⟩ ?_
  clear E0 KS KA KB KR
  rintro W1 ⟨E1, KS, KA, KB, KR⟩
  obtain ⟨c0, c1, c2, c3, c4', c5, c6, c7⟩ := KS.sg
  clear c1 c2 c3 c4' c5 c6
  have la := KA.six0
  have lb := KB.six0
  go_wp2_with ((apply load_by rfl _ _ rfl _ rfl); (focus (with_reducible assumption)))
  refine (head_any s.kind _ HOK.out.1).mono ?_
  rintro e w' ⟨rfl, rfl⟩
  generalize Pl.segSize s.kind = Z at *
  have ew : IntKind.i64.wrap ((Z : Int) + (n : Int)) = (Z : Int) + (n : Int) := IntWalk.i64_in _ (by omega)
  go_wp2_with ((apply load_by rfl _ _ rfl _ rfl); (focus (with_reducible assumption)))
  refine (HO6.out _).mono ?_
  rintro e W2 ⟨rfl, q2⟩
  have K2 := KS.ext q2
  have KA2 := KA.ext q2
  have KB2 := KB.ext q2
  have KR2 := KR.ext q2
  have E2 := E1.trans q2
  have ld := K2.seg
  clear c0 c7 KS KA KB KR E1 q2 la lb
  go_wp2_with ((apply load_by rfl _ _ rfl _ rfl); (focus (with_reducible assumption)))
  refine (enc_seg s a n c xs O W2 HOK.out (HR.out.ext E2) HB.out HWO.out).mono ?_
  rintro e W3 ⟨a3, n3, d3, rfl, o3, q3⟩
  rw [HBD.out] at o3
  have K3 := K2.ext q3
  have KR3 := KR2.ext q3
  have la : (Instr.loadAt 23 (.pointer (some ⟨w.heap.size + 1, 0, none⟩))).run Tryd.prog W3 = .ok (.agg #[.int .i64 src.x0, .int .i64 src.x1, .int .i64 src.x2, .int .i64 src.x3, .int .i64 src.x4, .int .i64 src.x5, .int .i64 src.x6, .int .i64 src.x7]) W3 := (KA2.ext q3).six0
  have lb : (Instr.loadAt 23 (.pointer (some ⟨w.heap.size + 2, 0, none⟩))).run Tryd.prog W3 = .ok (.agg #[.int .i64 dst.x0, .int .i64 dst.x1, .int .i64 dst.x2, .int .i64 dst.x3, .int .i64 dst.x4, .int .i64 dst.x5, .int .i64 dst.x6, .int .i64 dst.x7]) W3 := (KB2.ext q3).six0
  have E3 := E2.trans q3
  have hz2 := KR2.lt
  have c0 : W3.cell? ⟨w.heap.size, 0, none⟩ = some (.int .i64 s.kind) := K3.cells 0
  have st := sto6l KR3 ⟨src, dst, hop, s.kind⟩ a3 n3 d3
  have KF := KR3.row ((⟨src, dst, hop, s.kind⟩ : P6).cells (.slice a3 n3 d3))
  have o4 := (o3.rowOff (k := w.heap.size + 3) (fun j hj => by have := (o3.lt j hj).1; omega) ((⟨src, dst, hop, s.kind⟩ : P6).cells (.slice a3 n3 d3))).mono E2.size
  have E4 := E3.row (k := w.heap.size + 3) (by omega) ((⟨src, dst, hop, s.kind⟩ : P6).cells (.slice a3 n3 d3))
  have HO := Lib.hid o4
  have HE := Lib.hid E4
  clear K2 KA2 KB2 KR2 E2 q3 o3 E3 K3 KR3 o4 E4 ld
  go_wp2_with (first | ((apply load_by rfl _ _ rfl _ rfl); (focus (with_reducible assumption))) | ((apply store_by rfl _ _ _ rfl _ rfl); (focus (with_reducible assumption)); (focus rfl)))
  refine bodyPost_ret (results_cell2 Tryd.results86 _ _ (w.heap.size + 3) 72 ((⟨src, dst, hop, s.kind⟩ : P6).cells (.slice a3 n3 d3)) _ rfl KF Tryd.underlying72 rfl Tryd.sizeP6) rfl ⟨a3, n3, d3, rfl, HO.out, HE.out⟩
end Go.Proofs.YtkjchddidpjjmaaDoor
/- The document's size, Packed4, Packed6. Conditions: as each theorem states them (the segment and the addresses may be). -/
namespace Go.Proofs.YtkjchddidpjjmaaDoor
open Go.RowKit
set_option maxRecDepth 100000 in
set_option maxHeartbeats 1000000 in
theorem rsize_any (s : Sg) (a : Option Addr) (n c : Nat) (xs : List Int) (w : World) (hok : Pl.SegOk s n) (hr : Ints .u8 w a n xs) :
    Calls Tryd.prog 97 #[s.v (.slice a n c)] w fun e w' => e = .returned (.int .i64 ((Pl.segSize s.kind : Int) + (n : Int))) ∧ Ext w w' := by
  have HL := Lib.hid hr.len
  have HR := Lib.hid hr
  have HOK := Lib.hid hok
  have K0 := Blk.new w 50 (s.cells (.slice a n c))
  have E0 : Ext w (w.alloc (.cells (s.cells (.slice a n c)) 50)) := (Ext.refl w).alloc _
  have ld := K0.seg
  clear hr hok
  go_enter Tryd.func97, Tryd.ntmps97
  go_wp2_with ((apply load_by rfl _ _ rfl _ rfl); (focus (with_reducible assumption)))
  refine (rsegBytes_any s a n c xs 0 _ HOK.out (HR.out.ext E0) (by decide)).mono ?_
  rintro e W1 ⟨v1, rfl, o1, q1⟩
  obtain ⟨a1, n1, c1, rfl, _, r1⟩ := o1.read
  have hn1 : (n1 : Int) = (Pl.segSize s.kind : Int) + (n : Int) := by
    have h1 := r1.len
    rw [Pl.segBytes_length HOK.out.1, HL.out] at h1
    omega
  have HN := Lib.hid hn1
  have E1 := E0.trans q1
  clear ld o1 r1 hn1 K0 E0 q1
  go_wp2_with fail
  go_ret
  exact ⟨by rw [← HN.out]; rfl, E1⟩
theorem rover4_seg (s : Sg) (src dst : Int) (n : Nat) (w : World) (hok : Pl.SegOk s n) (hs : 0 ≤ src ∧ src < 4294967296) (hd : 0 ≤ dst ∧ dst < 4294967296) :
    Calls Tryd.prog 96 #[.int .i64 src, .int .i64 dst, .int .i64 s.kind, .int .i64 ((Pl.segSize s.kind : Int) + (n : Int))] w fun e w' => e = .returned (.tuple #[.int .i64 (ov4 s src dst n), .int .i64 0]) ∧ Ext w w' := by
  have := rover4_any src dst s.kind ((Pl.segSize s.kind : Int) + (n : Int)) w
  rw [ok4_seg hok hs hd] at this
  exact this
theorem rover6_seg (s : Sg) (src dst : Six) (n : Nat) (w : World) (hok : Pl.SegOk s n) (hs : okS src = true) (hd : okS dst = true) :
    Calls Tryd.prog 95 #[src.v, dst.v, .int .i64 s.kind, .int .i64 ((Pl.segSize s.kind : Int) + (n : Int))] w fun e w' => e = .returned (.tuple #[.int .i64 (ov6 s src dst n), .int .i64 0]) ∧ Ext w w' := by
  have := rover6_any src dst s.kind ((Pl.segSize s.kind : Int) + (n : Int)) w
  rw [ok6_seg hok hs hd] at this
  exact this
theorem Blk.ldi {w : World} {g : Nat} {t : TypeId} {cs : Array Value} (h : Blk w g t cs) (i : Nat) (x : Int) (hi : cs[i]? = some (.int .i64 x)) : (Instr.loadAt 3 (.pointer (some ⟨g, i, none⟩))).run Tryd.prog w = .ok (.int .i64 x) w := by
  have hc := (h.cells i).trans hi
  simp [Instr.loadAt, Instr.sureAddr, loadVar, isAgg, underlying, Tryd.underlying3, hc, Result.andThen]

set_option maxRecDepth 100000 in
set_option maxHeartbeats 1000000 in
theorem rpacked4_any (s : Sg) (src dst ttl : Int) (a : Option Addr) (n c : Nat) (xs : List Int) (w : World) (hok : Pl.SegOk s n) (hs : 0 ≤ src ∧ src < 4294967296) (hd : 0 ≤ dst ∧ dst < 4294967296) (hr : Ints .u8 w a n xs) (hb : Pl.IsB xs) :
    Calls Tryd.prog 77 #[s.v (.slice a n c), .int .i64 src, .int .i64 dst, .int .i64 ttl] w fun e w' => ∃ a' n' c', e = .returned (pk4 src dst ttl s.kind 0 (.slice a' n' c')) ∧ Own w' w.heap.size (.slice a' n' c') (body4 s src dst xs) ∧ Ext w w' := by
  have KS := (Blk.new w 50 (s.cells (.slice a n c))).alloc (.cells (c4 0 0 0 0 0 (.slice none 0 0)) 74)
  have KR := Blk.at (n := w.heap.size + 1) (w.alloc (.cells (s.cells (.slice a n c)) 50)) 74 (c4 0 0 0 0 0 (.slice none 0 0)) (by simp)
  have E0 : Ext w _ := ((Ext.refl w).alloc (.cells (s.cells (.slice a n c)) 50)).alloc (.cells (c4 0 0 0 0 0 (.slice none 0 0)) 74)
  have HOK := Lib.hid hok
  have HR := Lib.hid hr
  have HB := Lib.hid hb
  have HL := Lib.hid hr.len
  have HSZ := Lib.hid (fun (W : World) (q : Ext w W) => rsize_any s a n c xs W hok (hr.ext q))
  have HO4 := Lib.hid (fun (W : World) => rover4_seg s src dst n W hok hs hd)
  have HBD := Lib.hid (show Pl.segBytes s (Pl.segCheck s (ov4 s src dst n) xs) xs = body4 s src dst xs by unfold body4; rw [HL.out])
  have HWO := Lib.hid (show Pl.Word (ov4 s src dst n) from val4_word)
  generalize ov4 s src dst n = O at *
  clear hok hr hb hs hd
  go_enter Tryd.func77, Tryd.ntmps77
  go_upto_region 1 with (fail)
  refine at_worldE (fun W => Ext w W ∧ Blk W w.heap.size 50 (s.cells (.slice a n c)) ∧ Blk W (w.heap.size + 1) 74 (c4 0 0 0 0 0 (.slice none 0 0))) ⟨E0, KS, KR⟩ ?_
  clear E0 KS KR
  rintro W1 ⟨E1, KS, KR⟩
  refine wp_region_held_drew (S := (fun w' => Blk w' w.heap.size 50 (s.cells (.slice a n c)))) (by kernel_rfl) (Blk.drew KS) (fun hS0 => ?_)
  have EX := E1.drew
  have KX : Blk W1.drew (w.heap.size + 1) _ _ := Blk.drew KR
  generalize W1.drew = V0 at *
  clear E1 KS KR
  (refine wpAnyH_take (i := 0) (v := ?_) rfl (by kernel_rfl) (by kernel_rfl) (by kernel_rfl) (fun _ _ _ h => h) (Or.inl ⟨by rfl, ?_⟩) (by assumption) ?_; rotate_left; focus (intro w hSw; (try dsimp only at hSw); go_simp; try with_reducible rfl); try simp only [Act.put, List.getElem_toArray, List.getElem_cons_succ, List.getElem_cons_zero, List.setIfInBounds_toArray, List.set_cons_zero, List.set_cons_succ])
  (refine wpAnyH_take (i := 1) (v := ?_) rfl (by kernel_rfl) (by kernel_rfl) (by kernel_rfl) (fun _ _ _ h => h) (Or.inl ⟨by rfl, ?_⟩) (by assumption) ?_; rotate_left; focus (intro w hSw; (try dsimp only at hSw); go_simp; try with_reducible rfl); try simp only [Act.put, List.getElem_toArray, List.getElem_cons_succ, List.getElem_cons_zero, List.setIfInBounds_toArray, List.set_cons_zero, List.set_cons_succ])
  (refine wpAnyH_take (i := 2) (v := ?_) rfl (by kernel_rfl) (by kernel_rfl) (by kernel_rfl) (fun _ _ _ h => h) (Or.inl ⟨by rfl, ?_⟩) (by assumption) ?_; rotate_left; focus (intro w hSw; (try dsimp only at hSw); go_simp; try with_reducible rfl); try simp only [Act.put, List.getElem_toArray, List.getElem_cons_succ, List.getElem_cons_zero, List.setIfInBounds_toArray, List.set_cons_zero, List.set_cons_succ])
  refine wpAnyH_take (i := 3) rfl (by kernel_rfl) (by kernel_rfl) (by kernel_rfl) (fun _ _ _ h => h) (Or.inl ⟨by rfl, fun W hS => exec_load rfl rfl (Blk.ldi hS 0 s.kind rfl)⟩) (by assumption) ?_
  (try simp only [Act.put, List.getElem_toArray, List.getElem_cons_succ, List.getElem_cons_zero, List.setIfInBounds_toArray, List.set_cons_zero, List.set_cons_succ])
  refine wpAnyH_take (i := 4) rfl (by kernel_rfl) (by kernel_rfl) (by kernel_rfl) (fun _ _ _ h => h) (Or.inl ⟨by rfl, fun W hS => exec_load rfl rfl (Blk.seg hS)⟩) (by assumption) ?_
  (try simp only [Act.put, List.getElem_toArray, List.getElem_cons_succ, List.getElem_cons_zero, List.setIfInBounds_toArray, List.set_cons_zero, List.set_cons_succ])
  (refine wpAnyH_ready (rs := [5]) (by kernel_rfl) (by simp) ?_; refine AllReadyH.cons rfl (fun K hK => ?_) AllReadyH.nil)
  go_simp
  go_at_call 97
  refine (HSZ.out V0 EX).mono ?_
  rintro e V1 ⟨rfl, q⟩
  replace EX := EX.trans q
  replace KX := KX.ext q
  refine hK.out _ _ (hS0.ext q) ?_
  clear hK K q
  intro hS
  (try simp only [Act.put, List.getElem_toArray, List.getElem_cons_succ, List.getElem_cons_zero, List.setIfInBounds_toArray, List.set_cons_zero, List.set_cons_succ])
  (refine wpAnyH_ready (rs := [6]) (by kernel_rfl) (by simp) ?_; refine AllReadyH.cons rfl (fun K hK => ?_) AllReadyH.nil)
  go_simp
  go_at_call 96
  refine (HO4.out V1).mono ?_
  rintro e V2 ⟨rfl, q⟩
  replace EX := EX.trans q
  replace KX := KX.ext q
  refine hK.out _ _ (hS.ext q) ?_
  clear hK K q hS
  intro hS
  (try simp only [Act.put, List.getElem_toArray, List.getElem_cons_succ, List.getElem_cons_zero, List.setIfInBounds_toArray, List.set_cons_zero, List.set_cons_succ])
  (refine wpAnyH_take (i := 7) (v := ?_) rfl (by kernel_rfl) (by kernel_rfl) (by kernel_rfl) (fun _ _ _ h => h) (Or.inl ⟨by rfl, ?_⟩) (by assumption) ?_; rotate_left; focus (intro w hSw; (try dsimp only at hSw); go_simp; try with_reducible rfl); try simp only [Act.put, List.getElem_toArray, List.getElem_cons_succ, List.getElem_cons_zero, List.setIfInBounds_toArray, List.set_cons_zero, List.set_cons_succ])
  (refine wpAnyH_take (i := 8) (v := ?_) rfl (by kernel_rfl) (by kernel_rfl) (by kernel_rfl) (fun _ _ _ h => h) (Or.inl ⟨by rfl, ?_⟩) (by assumption) ?_; rotate_left; focus (intro w hSw; (try dsimp only at hSw); go_simp; try with_reducible rfl); try simp only [Act.put, List.getElem_toArray, List.getElem_cons_succ, List.getElem_cons_zero, List.setIfInBounds_toArray, List.set_cons_zero, List.set_cons_succ])
  (refine wpAnyH_take (i := 9) (v := ?_) rfl (by kernel_rfl) (by kernel_rfl) (by kernel_rfl) (fun _ _ _ h => h) (Or.inl ⟨by rfl, ?_⟩) (by assumption) ?_; rotate_left; focus (intro w hSw; (try dsimp only at hSw); go_simp; try with_reducible rfl); try simp only [Act.put, List.getElem_toArray, List.getElem_cons_succ, List.getElem_cons_zero, List.setIfInBounds_toArray, List.set_cons_zero, List.set_cons_succ])
  (refine wpAnyH_take (i := 10) (v := ?_) rfl (by kernel_rfl) (by kernel_rfl) (by kernel_rfl) (fun _ _ _ h => h) (Or.inl ⟨by rfl, ?_⟩) (by assumption) ?_; rotate_left; focus (intro w hSw; (try dsimp only at hSw); go_simp; try with_reducible rfl); try simp only [Act.put, List.getElem_toArray, List.getElem_cons_succ, List.getElem_cons_zero, List.setIfInBounds_toArray, List.set_cons_zero, List.set_cons_succ])
  (refine wpAnyH_take (i := 11) (v := ?_) rfl (by kernel_rfl) (by kernel_rfl) (by kernel_rfl) (fun _ _ _ h => h) (Or.inl ⟨by rfl, ?_⟩) (by assumption) ?_; rotate_left; focus (intro w hSw; (try dsimp only at hSw); go_simp; try with_reducible rfl); try simp only [Act.put, List.getElem_toArray, List.getElem_cons_succ, List.getElem_cons_zero, List.setIfInBounds_toArray, List.set_cons_zero, List.set_cons_succ])
  refine wpAnyH_done (by kernel_rfl) ?_ _
  go_upto_region 2 with (fail)
  refine wp_region_held_drew (S := (fun w' => Blk w' w.heap.size 50 (s.cells (.slice a n c)))) (by kernel_rfl) (Blk.drew hS) (fun hS1 => ?_)
  replace EX := EX.drew
  replace KX : Blk V2.drew (w.heap.size + 1) _ _ := Blk.drew KX
  clear hS hS0
  generalize V2.drew = V3 at *
  (refine wpAnyH_take (i := 0) (v := ?_) rfl (by kernel_rfl) (by kernel_rfl) (by kernel_rfl) (fun _ _ _ h => h) (Or.inl ⟨by rfl, ?_⟩) (by assumption) ?_; rotate_left; focus (intro w hSw; (try dsimp only at hSw); go_simp; try with_reducible rfl); try simp only [Act.put, List.getElem_toArray, List.getElem_cons_succ, List.getElem_cons_zero, List.setIfInBounds_toArray, List.set_cons_zero, List.set_cons_succ])
  (refine wpAnyH_take (i := 1) (v := ?_) rfl (by kernel_rfl) (by kernel_rfl) (by kernel_rfl) (fun _ _ _ h => h) (Or.inl ⟨by rfl, ?_⟩) (by assumption) ?_; rotate_left; focus (intro w hSw; (try dsimp only at hSw); go_simp; try with_reducible rfl); try simp only [Act.put, List.getElem_toArray, List.getElem_cons_succ, List.getElem_cons_zero, List.setIfInBounds_toArray, List.set_cons_zero, List.set_cons_succ])
  (refine wpAnyH_take (i := 2) (v := ?_) rfl (by kernel_rfl) (by kernel_rfl) (by kernel_rfl) (fun _ _ _ h => h) (Or.inl ⟨by rfl, ?_⟩) (by assumption) ?_; rotate_left; focus (intro w hSw; (try dsimp only at hSw); go_simp; try with_reducible rfl); try simp only [Act.put, List.getElem_toArray, List.getElem_cons_succ, List.getElem_cons_zero, List.setIfInBounds_toArray, List.set_cons_zero, List.set_cons_succ])
  (refine wpAnyH_take (i := 3) (v := ?_) rfl (by kernel_rfl) (by kernel_rfl) (by kernel_rfl) (fun _ _ _ h => h) (Or.inl ⟨by rfl, ?_⟩) (by assumption) ?_; rotate_left; focus (intro w hSw; (try dsimp only at hSw); go_simp; try with_reducible rfl); try simp only [Act.put, List.getElem_toArray, List.getElem_cons_succ, List.getElem_cons_zero, List.setIfInBounds_toArray, List.set_cons_zero, List.set_cons_succ])
  (refine wpAnyH_take (i := 7) (v := ?_) rfl (by kernel_rfl) (by kernel_rfl) (by kernel_rfl) (fun _ _ _ h => h) (Or.inl ⟨by rfl, ?_⟩) (by assumption) ?_; rotate_left; focus (intro w hSw; (try dsimp only at hSw); go_simp; try with_reducible rfl); try simp only [Act.put, List.getElem_toArray, List.getElem_cons_succ, List.getElem_cons_zero, List.setIfInBounds_toArray, List.set_cons_zero, List.set_cons_succ])
  (try simp only [Act.put, List.getElem_toArray, List.getElem_cons_succ, List.getElem_cons_zero, List.setIfInBounds_toArray, List.set_cons_zero, List.set_cons_succ])
  refine wpAnyH_take (i := 4) rfl (by kernel_rfl) (by kernel_rfl) (by kernel_rfl) (fun _ _ _ h => h) (Or.inl ⟨by rfl, fun W hS => exec_load rfl rfl (Blk.ldi hS 0 s.kind rfl)⟩) (by assumption) ?_
  (try simp only [Act.put, List.getElem_toArray, List.getElem_cons_succ, List.getElem_cons_zero, List.setIfInBounds_toArray, List.set_cons_zero, List.set_cons_succ])
  refine wpAnyH_take (i := 5) rfl (by kernel_rfl) (by kernel_rfl) (by kernel_rfl) (fun _ _ _ h => h) (Or.inl ⟨by rfl, fun W hS => exec_load rfl rfl (Blk.seg hS)⟩) (by assumption) ?_
  (try simp only [Act.put, List.getElem_toArray, List.getElem_cons_succ, List.getElem_cons_zero, List.setIfInBounds_toArray, List.set_cons_zero, List.set_cons_succ])
  refine wpAnyH_take (i := 6) rfl (by kernel_rfl) (by kernel_rfl) (by kernel_rfl) (fun _ _ _ h => h) (Or.inl ⟨by rfl, fun W hS => exec_load rfl rfl (Blk.seg hS)⟩) (by assumption) ?_
  (try simp only [Act.put, List.getElem_toArray, List.getElem_cons_succ, List.getElem_cons_zero, List.setIfInBounds_toArray, List.set_cons_zero, List.set_cons_succ])
  (refine wpAnyH_ready (rs := [8]) (by kernel_rfl) (by simp) ?_; refine AllReadyH.cons rfl (fun K hK => ?_) AllReadyH.nil)
  go_simp
  go_at_call 31
  refine (rcheckOf_any s a n c xs O V3 HOK.out (HR.out.ext EX) HB.out HWO.out).mono ?_
  rintro e V4 ⟨rfl, q⟩
  replace EX := EX.trans q
  replace KX := KX.ext q
  refine hK.out _ _ (hS1.ext q) ?_
  clear hK K q hS1
  intro hS
  (try simp only [Act.put, List.getElem_toArray, List.getElem_cons_succ, List.getElem_cons_zero, List.setIfInBounds_toArray, List.set_cons_zero, List.set_cons_succ])
  (refine wpAnyH_ready (rs := [9]) (by kernel_rfl) (by simp) ?_; refine AllReadyH.cons rfl (fun K hK => ?_) AllReadyH.nil)
  go_simp
  go_at_call 30
  refine (rsegBytes_any s a n c xs (Pl.segCheck s O xs) V4 HOK.out (HR.out.ext EX) (Pl.segCheck_bd s O xs)).mono ?_
  rintro e V5 ⟨v5, rfl, o5, q⟩
  obtain ⟨a5, n5, d5, rfl, _, _⟩ := o5.read
  rw [HBD.out] at o5
  have hsz := EX.size
  have hk4 := KX.lt
  replace EX := EX.trans q
  replace KX := KX.ext q
  refine hK.out _ _ (hS.ext q) ?_
  clear hK K q hS
  intro hS
  (try simp only [Act.put, List.getElem_toArray, List.getElem_cons_succ, List.getElem_cons_zero, List.setIfInBounds_toArray, List.set_cons_zero, List.set_cons_succ])
  (refine wpAnyH_take (i := 10) (v := ?_) rfl (by kernel_rfl) (by kernel_rfl) (by kernel_rfl) (fun _ _ _ h => h) (Or.inl ⟨by rfl, ?_⟩) (by assumption) ?_; rotate_left; focus (intro w hSw; (try dsimp only at hSw); go_simp; try with_reducible rfl); try simp only [Act.put, List.getElem_toArray, List.getElem_cons_succ, List.getElem_cons_zero, List.setIfInBounds_toArray, List.set_cons_zero, List.set_cons_succ])
  (try simp only [Act.put, List.getElem_toArray, List.getElem_cons_succ, List.getElem_cons_zero, List.setIfInBounds_toArray, List.set_cons_zero, List.set_cons_succ])
  (refine wpAnyH_ready (rs := [11]) (by kernel_rfl) (by simp) ?_; refine AllReadyH.cons rfl (fun K hK => ?_) AllReadyH.nil)
  rw [if_pos (by rfl)]
  have hkl := KX.lt
  refine wp_store_by _ _ _ rfl _ rfl (sto4 KX src dst ttl s.kind 0 a5 n5 d5) rfl ?_
  have K8 := KX.row (c4 src dst ttl s.kind 0 (.slice a5 n5 d5))
  have hrow : w.heap.size + 1 < V4.heap.size := hk4
  have o8 := (o5.rowOff (k := w.heap.size + 1) (fun j hj => by have := (o5.lt j hj).1; omega) (c4 src dst ttl s.kind 0 (.slice a5 n5 d5))).mono hsz
  have E8 := EX.row (k := w.heap.size + 1) (Nat.le_succ _) (c4 src dst ttl s.kind 0 (.slice a5 n5 d5))
  have S8 := Blk.farRow hS (show w.heap.size ≠ w.heap.size + 1 by omega) (c4 src dst ttl s.kind 0 (.slice a5 n5 d5))
  have HO8 := Lib.hid o8
  have HE8 := Lib.hid E8
  refine hK.out _ _ S8 ?_
  clear hK K
  intro hS
  (try simp only [Act.put, List.getElem_toArray, List.getElem_cons_succ, List.getElem_cons_zero])
  refine wpAnyH_done (by kernel_rfl) ?_ _
  go_wp2_with fail
  refine bodyPost_ret (v := pk4 src dst ttl s.kind 0 (.slice a5 n5 d5)) (results_cell_row Tryd.results77 _ _ (w.heap.size + 1) 74 _ (0, 0) _ rfl K8 Tryd.underlying74 rfl Tryd.sizeP4) rfl ⟨a5, n5, d5, rfl, HO8.out, HE8.out⟩

set_option maxRecDepth 100000 in
set_option maxHeartbeats 2000000 in
theorem rpacked6_any (s : Sg) (src dst : Six) (hop : Int) (a : Option Addr) (n c : Nat) (xs : List Int) (w : World) (hok : Pl.SegOk s n) (hs : okS src = true) (hd : okS dst = true) (hr : Ints .u8 w a n xs) (hb : Pl.IsB xs) :
    Calls Tryd.prog 83 #[s.v (.slice a n c), src.v, dst.v, .int .i64 hop] w fun e w' => ∃ a' n' c', e = .returned ((⟨src, dst, hop, s.kind⟩ : P6).v (.slice a' n' c')) ∧ Own w' w.heap.size (.slice a' n' c') (body6 s src dst xs) ∧ Ext w w' := by
  have KS := (((Blk.new w 50 (s.cells (.slice a n c))).alloc (.cells src.cells 23)).alloc (.cells dst.cells 23)).alloc (.cells #[.int .i64 0, .int .i64 0, .int .i64 0, .int .i64 0, .int .i64 0, .int .i64 0, .int .i64 0, .int .i64 0, .int .i64 0, .int .i64 0, .int .i64 0, .int .i64 0, .int .i64 0, .int .i64 0, .int .i64 0, .int .i64 0, .int .i64 0, .int .i64 0, .slice none 0 0] 72)
  have KA := ((Blk.at (n := w.heap.size + 1) (w.alloc (.cells (s.cells (.slice a n c)) 50)) 23 src.cells (by simp)).alloc (.cells dst.cells 23)).alloc (.cells #[.int .i64 0, .int .i64 0, .int .i64 0, .int .i64 0, .int .i64 0, .int .i64 0, .int .i64 0, .int .i64 0, .int .i64 0, .int .i64 0, .int .i64 0, .int .i64 0, .int .i64 0, .int .i64 0, .int .i64 0, .int .i64 0, .int .i64 0, .int .i64 0, .slice none 0 0] 72)
  have KB := (Blk.at (n := w.heap.size + 2) ((w.alloc (.cells (s.cells (.slice a n c)) 50)).alloc (.cells src.cells 23)) 23 dst.cells (by simp)).alloc (.cells #[.int .i64 0, .int .i64 0, .int .i64 0, .int .i64 0, .int .i64 0, .int .i64 0, .int .i64 0, .int .i64 0, .int .i64 0, .int .i64 0, .int .i64 0, .int .i64 0, .int .i64 0, .int .i64 0, .int .i64 0, .int .i64 0, .int .i64 0, .int .i64 0, .slice none 0 0] 72)
  have KR := Blk.at (n := w.heap.size + 3) (((w.alloc (.cells (s.cells (.slice a n c)) 50)).alloc (.cells src.cells 23)).alloc (.cells dst.cells 23)) 72 #[.int .i64 0, .int .i64 0, .int .i64 0, .int .i64 0, .int .i64 0, .int .i64 0, .int .i64 0, .int .i64 0, .int .i64 0, .int .i64 0, .int .i64 0, .int .i64 0, .int .i64 0, .int .i64 0, .int .i64 0, .int .i64 0, .int .i64 0, .int .i64 0, .slice none 0 0] (by simp)
  have E0 : Ext w _ := ((((Ext.refl w).alloc (.cells (s.cells (.slice a n c)) 50)).alloc (.cells src.cells 23)).alloc (.cells dst.cells 23)).alloc (.cells #[.int .i64 0, .int .i64 0, .int .i64 0, .int .i64 0, .int .i64 0, .int .i64 0, .int .i64 0, .int .i64 0, .int .i64 0, .int .i64 0, .int .i64 0, .int .i64 0, .int .i64 0, .int .i64 0, .int .i64 0, .int .i64 0, .int .i64 0, .int .i64 0, .slice none 0 0] 72)
  have HOK := Lib.hid hok
  have HR := Lib.hid hr
  have HB := Lib.hid hb
  have HL := Lib.hid hr.len
  have HSZ := Lib.hid (fun (W : World) (q : Ext w W) => rsize_any s a n c xs W hok (hr.ext q))
  have HO6 := Lib.hid (fun (W : World) => rover6_seg s src dst n W hok hs hd)
  have HBD := Lib.hid (show Pl.segBytes s (Pl.segCheck s (ov6 s src dst n) xs) xs = body6 s src dst xs by unfold body6; rw [HL.out])
  have HWO := Lib.hid (show Pl.Word (ov6 s src dst n) from val6_word)
  generalize ov6 s src dst n = O at *
  clear hok hr hb hs hd
  unfold Six.v at *
  go_enter Tryd.func83, Tryd.ntmps83
  go_upto_region 1 with (fail)
  refine at_worldE (fun W => Ext w W ∧ (Blk W w.heap.size 50 (s.cells (.slice a n c)) ∧ Blk W (w.heap.size + 1) 23 src.cells ∧ Blk W (w.heap.size + 2) 23 dst.cells) ∧ Blk W (w.heap.size + 3) 72 #[.int .i64 0, .int .i64 0, .int .i64 0, .int .i64 0, .int .i64 0, .int .i64 0, .int .i64 0, .int .i64 0, .int .i64 0, .int .i64 0, .int .i64 0, .int .i64 0, .int .i64 0, .int .i64 0, .int .i64 0, .int .i64 0, .int .i64 0, .int .i64 0, .slice none 0 0]) ⟨E0, ⟨KS, KA, KB⟩, KR⟩ ?_
  clear E0 KS KA KB KR
  rintro W1 ⟨E1, KS, KR⟩
  have ext3 : ∀ W W' : World, (Blk W w.heap.size 50 (s.cells (.slice a n c)) ∧ Blk W (w.heap.size + 1) 23 src.cells ∧ Blk W (w.heap.size + 2) 23 dst.cells) → Ext W W' → (Blk W' w.heap.size 50 (s.cells (.slice a n c)) ∧ Blk W' (w.heap.size + 1) 23 src.cells ∧ Blk W' (w.heap.size + 2) 23 dst.cells) := fun W W' h q => ⟨h.1.ext q, h.2.1.ext q, h.2.2.ext q⟩
  have X3 := Lib.hid ext3
  clear ext3
  refine wp_region_held_drew (S := (fun w' => Blk w' w.heap.size 50 (s.cells (.slice a n c)) ∧ Blk w' (w.heap.size + 1) 23 src.cells ∧ Blk w' (w.heap.size + 2) 23 dst.cells)) (by kernel_rfl) (X3.out _ _ KS (Ext.refl W1).drew) (fun hS0 => ?_)
  have EX := E1.drew
  have KX : Blk W1.drew (w.heap.size + 3) _ _ := Blk.drew KR
  generalize W1.drew = V0 at *
  clear E1 KS KR
  (refine wpAnyH_take (i := 2) (v := ?_) rfl (by kernel_rfl) (by kernel_rfl) (by kernel_rfl) (fun _ _ _ h => h) (Or.inl ⟨by rfl, ?_⟩) (by assumption) ?_; rotate_left; focus (intro w hSw; (try dsimp only at hSw); go_simp; try with_reducible rfl); try simp only [Act.put, List.getElem_toArray, List.getElem_cons_succ, List.getElem_cons_zero, List.setIfInBounds_toArray, List.set_cons_zero, List.set_cons_succ])
  refine wpAnyH_take (i := 0) rfl (by kernel_rfl) (by kernel_rfl) (by kernel_rfl) (fun _ _ _ h => h) (Or.inl ⟨by rfl, fun W hS => exec_load rfl rfl (show (Instr.loadAt 23 (.pointer (some ⟨w.heap.size + 1, 0, none⟩))).run Tryd.prog W = .ok (.agg #[.int .i64 src.x0, .int .i64 src.x1, .int .i64 src.x2, .int .i64 src.x3, .int .i64 src.x4, .int .i64 src.x5, .int .i64 src.x6, .int .i64 src.x7]) W from hS.2.1.six0)⟩) (by assumption) ?_
  (try simp only [Act.put, List.getElem_toArray, List.getElem_cons_succ, List.getElem_cons_zero, List.setIfInBounds_toArray, List.set_cons_zero, List.set_cons_succ])
  refine wpAnyH_take (i := 1) rfl (by kernel_rfl) (by kernel_rfl) (by kernel_rfl) (fun _ _ _ h => h) (Or.inl ⟨by rfl, fun W hS => exec_load rfl rfl (show (Instr.loadAt 23 (.pointer (some ⟨w.heap.size + 2, 0, none⟩))).run Tryd.prog W = .ok (.agg #[.int .i64 dst.x0, .int .i64 dst.x1, .int .i64 dst.x2, .int .i64 dst.x3, .int .i64 dst.x4, .int .i64 dst.x5, .int .i64 dst.x6, .int .i64 dst.x7]) W from hS.2.2.six0)⟩) (by assumption) ?_
  (try simp only [Act.put, List.getElem_toArray, List.getElem_cons_succ, List.getElem_cons_zero, List.setIfInBounds_toArray, List.set_cons_zero, List.set_cons_succ])
  refine wpAnyH_take (i := 3) rfl (by kernel_rfl) (by kernel_rfl) (by kernel_rfl) (fun _ _ _ h => h) (Or.inl ⟨by rfl, fun W hS => exec_load rfl rfl (Blk.ldi hS.1 0 s.kind rfl)⟩) (by assumption) ?_
  (try simp only [Act.put, List.getElem_toArray, List.getElem_cons_succ, List.getElem_cons_zero, List.setIfInBounds_toArray, List.set_cons_zero, List.set_cons_succ])
  refine wpAnyH_take (i := 4) rfl (by kernel_rfl) (by kernel_rfl) (by kernel_rfl) (fun _ _ _ h => h) (Or.inl ⟨by rfl, fun W hS => exec_load rfl rfl (Blk.seg hS.1)⟩) (by assumption) ?_
  (try simp only [Act.put, List.getElem_toArray, List.getElem_cons_succ, List.getElem_cons_zero, List.setIfInBounds_toArray, List.set_cons_zero, List.set_cons_succ])
  (refine wpAnyH_ready (rs := [5]) (by kernel_rfl) (by simp) ?_; refine AllReadyH.cons rfl (fun K hK => ?_) AllReadyH.nil)
  go_simp
  go_at_call 97
  refine (HSZ.out V0 EX).mono ?_
  rintro e V1 ⟨rfl, q⟩
  replace EX := EX.trans q
  replace KX := KX.ext q
  refine hK.out _ _ (X3.out _ _ hS0 q) ?_
  clear hK K q
  intro hS
  (try simp only [Act.put, List.getElem_toArray, List.getElem_cons_succ, List.getElem_cons_zero, List.setIfInBounds_toArray, List.set_cons_zero, List.set_cons_succ])
  (refine wpAnyH_ready (rs := [6]) (by kernel_rfl) (by simp) ?_; refine AllReadyH.cons rfl (fun K hK => ?_) AllReadyH.nil)
  go_simp
  go_at_call 95
  refine (HO6.out V1).mono ?_
  rintro e V2 ⟨rfl, q⟩
  replace EX := EX.trans q
  replace KX := KX.ext q
  refine hK.out _ _ (X3.out _ _ hS q) ?_
  clear hK K q hS
  intro hS
  (try simp only [Act.put, List.getElem_toArray, List.getElem_cons_succ, List.getElem_cons_zero, List.setIfInBounds_toArray, List.set_cons_zero, List.set_cons_succ])
  (refine wpAnyH_take (i := 7) (v := ?_) rfl (by kernel_rfl) (by kernel_rfl) (by kernel_rfl) (fun _ _ _ h => h) (Or.inl ⟨by rfl, ?_⟩) (by assumption) ?_; rotate_left; focus (intro w hSw; (try dsimp only at hSw); go_simp; try with_reducible rfl); try simp only [Act.put, List.getElem_toArray, List.getElem_cons_succ, List.getElem_cons_zero, List.setIfInBounds_toArray, List.set_cons_zero, List.set_cons_succ])
  (refine wpAnyH_take (i := 8) (v := ?_) rfl (by kernel_rfl) (by kernel_rfl) (by kernel_rfl) (fun _ _ _ h => h) (Or.inl ⟨by rfl, ?_⟩) (by assumption) ?_; rotate_left; focus (intro w hSw; (try dsimp only at hSw); go_simp; try with_reducible rfl); try simp only [Act.put, List.getElem_toArray, List.getElem_cons_succ, List.getElem_cons_zero, List.setIfInBounds_toArray, List.set_cons_zero, List.set_cons_succ])
  (refine wpAnyH_take (i := 9) (v := ?_) rfl (by kernel_rfl) (by kernel_rfl) (by kernel_rfl) (fun _ _ _ h => h) (Or.inl ⟨by rfl, ?_⟩) (by assumption) ?_; rotate_left; focus (intro w hSw; (try dsimp only at hSw); go_simp; try with_reducible rfl); try simp only [Act.put, List.getElem_toArray, List.getElem_cons_succ, List.getElem_cons_zero, List.setIfInBounds_toArray, List.set_cons_zero, List.set_cons_succ])
  (refine wpAnyH_take (i := 10) (v := ?_) rfl (by kernel_rfl) (by kernel_rfl) (by kernel_rfl) (fun _ _ _ h => h) (Or.inl ⟨by rfl, ?_⟩) (by assumption) ?_; rotate_left; focus (intro w hSw; (try dsimp only at hSw); go_simp; try with_reducible rfl); try simp only [Act.put, List.getElem_toArray, List.getElem_cons_succ, List.getElem_cons_zero, List.setIfInBounds_toArray, List.set_cons_zero, List.set_cons_succ])
  (refine wpAnyH_take (i := 11) (v := ?_) rfl (by kernel_rfl) (by kernel_rfl) (by kernel_rfl) (fun _ _ _ h => h) (Or.inl ⟨by rfl, ?_⟩) (by assumption) ?_; rotate_left; focus (intro w hSw; (try dsimp only at hSw); go_simp; try with_reducible rfl); try simp only [Act.put, List.getElem_toArray, List.getElem_cons_succ, List.getElem_cons_zero, List.setIfInBounds_toArray, List.set_cons_zero, List.set_cons_succ])
  refine wpAnyH_done (by kernel_rfl) ?_ _
  go_upto_region 2 with (fail)
  refine wp_region_held_drew (S := (fun w' => Blk w' w.heap.size 50 (s.cells (.slice a n c)) ∧ Blk w' (w.heap.size + 1) 23 src.cells ∧ Blk w' (w.heap.size + 2) 23 dst.cells)) (by kernel_rfl) (X3.out _ _ hS (Ext.refl V2).drew) (fun hS1 => ?_)
  replace EX := EX.drew
  replace KX : Blk V2.drew (w.heap.size + 3) _ _ := Blk.drew KX
  clear hS hS0
  generalize V2.drew = V3 at *
  (refine wpAnyH_take (i := 2) (v := ?_) rfl (by kernel_rfl) (by kernel_rfl) (by kernel_rfl) (fun _ _ _ h => h) (Or.inl ⟨by rfl, ?_⟩) (by assumption) ?_; rotate_left; focus (intro w hSw; (try dsimp only at hSw); go_simp; try with_reducible rfl); try simp only [Act.put, List.getElem_toArray, List.getElem_cons_succ, List.getElem_cons_zero, List.setIfInBounds_toArray, List.set_cons_zero, List.set_cons_succ])
  (refine wpAnyH_take (i := 3) (v := ?_) rfl (by kernel_rfl) (by kernel_rfl) (by kernel_rfl) (fun _ _ _ h => h) (Or.inl ⟨by rfl, ?_⟩) (by assumption) ?_; rotate_left; focus (intro w hSw; (try dsimp only at hSw); go_simp; try with_reducible rfl); try simp only [Act.put, List.getElem_toArray, List.getElem_cons_succ, List.getElem_cons_zero, List.setIfInBounds_toArray, List.set_cons_zero, List.set_cons_succ])
  (refine wpAnyH_take (i := 7) (v := ?_) rfl (by kernel_rfl) (by kernel_rfl) (by kernel_rfl) (fun _ _ _ h => h) (Or.inl ⟨by rfl, ?_⟩) (by assumption) ?_; rotate_left; focus (intro w hSw; (try dsimp only at hSw); go_simp; try with_reducible rfl); try simp only [Act.put, List.getElem_toArray, List.getElem_cons_succ, List.getElem_cons_zero, List.setIfInBounds_toArray, List.set_cons_zero, List.set_cons_succ])
  (try simp only [Act.put, List.getElem_toArray, List.getElem_cons_succ, List.getElem_cons_zero, List.setIfInBounds_toArray, List.set_cons_zero, List.set_cons_succ])
  refine wpAnyH_take (i := 0) rfl (by kernel_rfl) (by kernel_rfl) (by kernel_rfl) (fun _ _ _ h => h) (Or.inl ⟨by rfl, fun W hS => exec_load rfl rfl (show (Instr.loadAt 23 (.pointer (some ⟨w.heap.size + 1, 0, none⟩))).run Tryd.prog W = .ok (.agg #[.int .i64 src.x0, .int .i64 src.x1, .int .i64 src.x2, .int .i64 src.x3, .int .i64 src.x4, .int .i64 src.x5, .int .i64 src.x6, .int .i64 src.x7]) W from hS.2.1.six0)⟩) (by assumption) ?_
  (try simp only [Act.put, List.getElem_toArray, List.getElem_cons_zero, List.setIfInBounds_toArray, List.set_cons_zero, List.set_cons_succ])
  refine wpAnyH_take (i := 1) rfl (by kernel_rfl) (by kernel_rfl) (by kernel_rfl) (fun _ _ _ h => h) (Or.inl ⟨by rfl, fun W hS => exec_load rfl rfl (show (Instr.loadAt 23 (.pointer (some ⟨w.heap.size + 2, 0, none⟩))).run Tryd.prog W = .ok (.agg #[.int .i64 dst.x0, .int .i64 dst.x1, .int .i64 dst.x2, .int .i64 dst.x3, .int .i64 dst.x4, .int .i64 dst.x5, .int .i64 dst.x6, .int .i64 dst.x7]) W from hS.2.2.six0)⟩) (by assumption) ?_
  (try simp only [Act.put, List.getElem_toArray, List.getElem_cons_succ, List.getElem_cons_zero, List.setIfInBounds_toArray, List.set_cons_zero, List.set_cons_succ])
  refine wpAnyH_take (i := 4) rfl (by kernel_rfl) (by kernel_rfl) (by kernel_rfl) (fun _ _ _ h => h) (Or.inl ⟨by rfl, fun W hS => exec_load rfl rfl (Blk.ldi hS.1 0 s.kind rfl)⟩) (by assumption) ?_
  (try simp only [Act.put, List.getElem_toArray, List.getElem_cons_succ, List.getElem_cons_zero, List.setIfInBounds_toArray, List.set_cons_zero, List.set_cons_succ])
  refine wpAnyH_take (i := 5) rfl (by kernel_rfl) (by kernel_rfl) (by kernel_rfl) (fun _ _ _ h => h) (Or.inl ⟨by rfl, fun W hS => exec_load rfl rfl (Blk.seg hS.1)⟩) (by assumption) ?_
  (try simp only [Act.put, List.getElem_toArray, List.getElem_cons_succ, List.getElem_cons_zero, List.setIfInBounds_toArray, List.set_cons_zero, List.set_cons_succ])
  refine wpAnyH_take (i := 6) rfl (by kernel_rfl) (by kernel_rfl) (by kernel_rfl) (fun _ _ _ h => h) (Or.inl ⟨by rfl, fun W hS => exec_load rfl rfl (Blk.seg hS.1)⟩) (by assumption) ?_
  (try simp only [Act.put, List.getElem_toArray, List.getElem_cons_succ, List.getElem_cons_zero, List.setIfInBounds_toArray, List.set_cons_zero, List.set_cons_succ])
  (refine wpAnyH_ready (rs := [8]) (by kernel_rfl) (by simp) ?_; refine AllReadyH.cons rfl (fun K hK => ?_) AllReadyH.nil)
  go_simp
  go_at_call 31
  refine (rcheckOf_any s a n c xs O V3 HOK.out (HR.out.ext EX) HB.out HWO.out).mono ?_
  rintro e V4 ⟨rfl, q⟩
  replace EX := EX.trans q
  replace KX := KX.ext q
  refine hK.out _ _ (X3.out _ _ hS1 q) ?_
  clear hK K q hS1
  intro hS
  (try simp only [Act.put, List.getElem_toArray, List.getElem_cons_succ, List.getElem_cons_zero, List.setIfInBounds_toArray, List.set_cons_zero, List.set_cons_succ])
  (refine wpAnyH_ready (rs := [9]) (by kernel_rfl) (by simp) ?_; refine AllReadyH.cons rfl (fun K hK => ?_) AllReadyH.nil)
  go_simp
  go_at_call 30
  refine (rsegBytes_any s a n c xs (Pl.segCheck s O xs) V4 HOK.out (HR.out.ext EX) (Pl.segCheck_bd s O xs)).mono ?_
  rintro e V5 ⟨v5, rfl, o5, q⟩
  obtain ⟨a5, n5, d5, rfl, _, _⟩ := o5.read
  rw [HBD.out] at o5
  have hsz := EX.size
  have hk4 := KX.lt
  replace EX := EX.trans q
  replace KX := KX.ext q
  refine hK.out _ _ (X3.out _ _ hS q) ?_
  clear hK K q hS
  intro hS
  (try simp only [Act.put, List.getElem_toArray, List.getElem_cons_succ, List.getElem_cons_zero, List.setIfInBounds_toArray, List.set_cons_zero, List.set_cons_succ])
  (refine wpAnyH_take (i := 10) (v := ?_) rfl (by kernel_rfl) (by kernel_rfl) (by kernel_rfl) (fun _ _ _ h => h) (Or.inl ⟨by rfl, ?_⟩) (by assumption) ?_; rotate_left; focus (intro w hSw; (try dsimp only at hSw); go_simp; try with_reducible rfl); try simp only [Act.put, List.getElem_toArray, List.getElem_cons_succ, List.getElem_cons_zero, List.setIfInBounds_toArray, List.set_cons_zero, List.set_cons_succ])
  (try simp only [Act.put, List.getElem_toArray, List.getElem_cons_succ, List.getElem_cons_zero, List.setIfInBounds_toArray, List.set_cons_zero, List.set_cons_succ])
  (refine wpAnyH_ready (rs := [11]) (by kernel_rfl) (by simp) ?_; refine AllReadyH.cons rfl (fun K hK => ?_) AllReadyH.nil)
  rw [if_pos (by rfl)]
  have hkl := KX.lt
  refine wp_store_by _ _ _ rfl _ rfl (sto6l KX ⟨src, dst, hop, s.kind⟩ a5 n5 d5) rfl ?_
  have K8 := KX.row ((⟨src, dst, hop, s.kind⟩ : P6).cells (.slice a5 n5 d5))
  have o8 := (o5.rowOff (k := w.heap.size + 3) (fun j hj => by have := (o5.lt j hj).1; omega) ((⟨src, dst, hop, s.kind⟩ : P6).cells (.slice a5 n5 d5))).mono hsz
  have E8 := EX.row (k := w.heap.size + 3) (by omega) ((⟨src, dst, hop, s.kind⟩ : P6).cells (.slice a5 n5 d5))
  have S8 := And.intro (Blk.farRow hS.1 (show w.heap.size ≠ w.heap.size + 3 by omega) ((⟨src, dst, hop, s.kind⟩ : P6).cells (.slice a5 n5 d5))) (And.intro (Blk.farRow hS.2.1 (show w.heap.size + 1 ≠ w.heap.size + 3 by omega) ((⟨src, dst, hop, s.kind⟩ : P6).cells (.slice a5 n5 d5))) (Blk.farRow hS.2.2 (show w.heap.size + 2 ≠ w.heap.size + 3 by omega) ((⟨src, dst, hop, s.kind⟩ : P6).cells (.slice a5 n5 d5))))
  have HO8 := Lib.hid o8
  have HE8 := Lib.hid E8
  refine hK.out _ _ S8 ?_
  clear hK K
  intro hS
  (try simp only [Act.put, List.getElem_toArray, List.getElem_cons_succ, List.getElem_cons_zero])
  refine wpAnyH_done (by kernel_rfl) ?_ _
  go_wp2_with fail
  refine bodyPost_ret (v := (⟨src, dst, hop, s.kind⟩ : P6).v (.slice a5 n5 d5)) (results_cell_row Tryd.results83 _ _ (w.heap.size + 3) 72 _ (0, 0) _ rfl K8 Tryd.underlying72 rfl Tryd.sizeP6) rfl ⟨a5, n5, d5, rfl, HO8.out, HE8.out⟩
end Go.Proofs.YtkjchddidpjjmaaDoor
/- cross.To4 and the document's Crossed4, of any packet. Conditions: as each theorem states them. -/
namespace Go.Proofs.YtkjchddidpjjmaaDoor
open Go.RowKit
/-- What is wrong with a packet that is to cross. -/
def x4Q (p : P6) (n : Nat) (xs : List Int) (src dst : Int) : Int :=
  if p.fault n ≠ 0 then p.fault n else if ¬ (w32 src = true ∧ w32 dst = true) then 1
  else if Pl.opQ p.kind xs (val6 p.src p.dst p.kind n) ≠ 0 then Pl.opQ p.kind xs (val6 p.src p.dst p.kind n) else if p.hop < 2 then 7 else 0
def zq (Q x : Int) : Int := if Q = 0 then x else 0
def x4B (p : P6) (xs : List Int) (src dst Q : Int) : List Int := if Q = 0 then body4 (Pl.decSeg p.kind xs) src dst (xs.drop (Pl.segSize p.kind)) else []
def x4c (p : P6) (src dst Q : Int) (v : Value) : Array Value := c4 (zq Q src) (zq Q dst) (zq Q (p.hop - 1)) (zq Q p.kind) 0 v
def X4Got (p : P6) (xs : List Int) (src dst Q : Int) (err : Value) (w : World) (e : Ending) (w' : World) : Prop :=
  ∃ a n c, e = .returned (.tuple #[.agg (x4c p src dst Q (.slice a n c)), err]) ∧ Own w' w.heap.size (.slice a n c) (x4B p xs src dst Q) ∧ Ext w w'
theorem x4_bad {p : P6} {xs : List Int} {src dst Q : Int} {err v : Value} {w w' : World} (hq : Q ≠ 0) (hv : v = err) (he : Ext w w') : X4Got p xs src dst Q err w (.returned (.tuple #[.agg (c4 0 0 0 0 0 (.slice none 0 0)), v])) w' := by
  subst hv
  refine ⟨none, 0, 0, ?_, ?_, he⟩
  · unfold x4c zq
    rw [if_neg hq, if_neg hq, if_neg hq, if_neg hq]
  · unfold x4B
    rw [if_neg hq]
    exact Own.nil _ _
theorem op_zero {k over : Int} {xs : List Int} (hb : Pl.IsB xs) (h : Pl.opQ k xs over = 0) : (k = 6 ∨ k = 17) ∧ Pl.opV k xs over = Pl.decSeg k xs ∧ Pl.opD k xs over = xs.drop (Pl.segSize k) ∧ Pl.SegOk (Pl.decSeg k xs) (xs.drop (Pl.segSize k)).length ∧ Pl.segQ k xs over = 0 := by
  have hv : Pl.opV k xs over = Pl.decSeg k xs := by unfold Pl.opV; rw [if_pos h]
  have hd : Pl.opD k xs over = xs.drop (Pl.segSize k) := by unfold Pl.opD; rw [if_pos h]
  have h' := h
  unfold Pl.opQ at h'
  split at h'
  · cases h'
  obtain ⟨h1, _, _, _, h5⟩ := Pl.segQ_zero hb h'
  exact ⟨h1, hv, hd, h5, h'⟩
set_option maxRecDepth 100000 in
set_option maxHeartbeats 4000000 in
theorem to4_any (p : P6) (a : Option Addr) (n c : Nat) (xs : List Int) (src dst : Int) (w : World) (hr : Ints .u8 w a n xs) (hb : Pl.IsB xs) (hnc : n ≤ c) (hc : a = none → c = 0) :
    Calls Tryd.prog 38 #[p.v (.slice a n c), .int .i64 src, .int .i64 dst] w (X4Got p xs src dst (x4Q p n xs src dst) (erv (x4Q p n xs src dst)) w) := by
  have KP := (Blk.new w 72 (p.cells (.slice a n c))).alloc (.cells (c4 0 0 0 0 0 (.slice none 0 0)) 74)
  have KR := Blk.at (n := w.heap.size + 1) (w.alloc (.cells (p.cells (.slice a n c)) 72)) 74 (c4 0 0 0 0 0 (.slice none 0 0)) (by simp)
  have E0 : Ext w _ := ((Ext.refl w).alloc (.cells (p.cells (.slice a n c)) 72)).alloc (.cells (c4 0 0 0 0 0 (.slice none 0 0)) 74)
  have HR := Lib.hid hr
  have HB := Lib.hid hb
  have HC := Lib.hid hc
  obtain ⟨Q, hQ⟩ : ∃ Q, x4Q p n xs src dst = Q := ⟨_, rfl⟩
  rw [hQ]
  have HQ := Lib.hid hQ
  obtain ⟨F, hF⟩ : ∃ F, p.fault n = F := ⟨_, rfl⟩
  have HF := Lib.hid hF
  have HCK := Lib.hid (fun W => hF ▸ check6p_any p a n c W)
  clear hr hb hQ hF hc
  go_enter Tryd.func38, Tryd.ntmps38
  go_upto_region 1 with (fail)
  refine at_worldE (fun W => Ext w W ∧ Blk W w.heap.size 72 (p.cells (.slice a n c)) ∧ Blk W (w.heap.size + 1) 74 (c4 0 0 0 0 0 (.slice none 0 0))) ⟨E0, KP, KR⟩ ?_
  clear E0 KP KR
  rintro W1 ⟨E1, KP, KR⟩
  have ld := KP.p6
  go_wp2_with ((apply load_by rfl _ _ rfl _ rfl); (focus (with_reducible assumption)))
  refine (HCK.out W1).mono ?_
  rintro e W2 ⟨rfl, q2⟩
  replace E1 := E1.trans q2
  replace KP := KP.ext q2
  replace KR := KR.ext q2
  clear ld q2
  by_cases hf : F = 0
  case neg =>
    have hq : Q = F := by have := HQ.out; unfold x4Q at this; rw [HF.out, if_pos hf] at this; exact this.symm
    subst hq
    rw [erv_ne hf]
    have st := sto4 KR 0 0 0 0 0 none 0 0
    have KF := KR.row (c4 0 0 0 0 0 (.slice none 0 0))
    have HE := Lib.hid (E1.row (k := w.heap.size + 1) (Nat.le_succ _) (c4 0 0 0 0 0 (.slice none 0 0)))
    have HN := Lib.hid hf
    unfold errv
    clear hf E1 KP KR
    go_wp2_with ((apply store_by rfl _ _ _ rfl _ rfl); (focus (with_reducible assumption)); (focus rfl))
    refine bodyPost_ret (results_cell2 Tryd.results38 _ _ (w.heap.size + 1) 74 (c4 0 0 0 0 0 (.slice none 0 0)) _ rfl KF Tryd.underlying74 rfl Tryd.sizeP4) rfl (x4_bad HN.out (erv_ne HN.out).symm HE.out)
  subst hf
  rw [erv_zero]
  obtain ⟨hg, hn⟩ := P6.fault_zero HF.out
  have HG := Lib.hid hg
  clear hg
  have hQ2 : (if ¬ (w32 src = true ∧ w32 dst = true) then 1 else if Pl.opQ p.kind xs (val6 p.src p.dst p.kind n) ≠ 0 then Pl.opQ p.kind xs (val6 p.src p.dst p.kind n) else if p.hop < 2 then 7 else 0) = Q := by
    have := HQ.out
    unfold x4Q at this
    rw [HF.out, if_neg (by simp)] at this
    exact this
  have HQ2 := Lib.hid hQ2
  clear hQ2 HQ
  cases hs : w32 src
  case false =>
    have hq : Q = 1 := by have := HQ2.out; rw [if_pos (by simp [hs])] at this; exact this.symm
    subst hq
    have st := sto4 KR 0 0 0 0 0 none 0 0
    have KF := KR.row (c4 0 0 0 0 0 (.slice none 0 0))
    have HE := Lib.hid (E1.row (k := w.heap.size + 1) (Nat.le_succ _) (c4 0 0 0 0 0 (.slice none 0 0)))
    have HS := Lib.hid hs
    clear hs E1 KP KR
    go_wp2_with fail
    refine (is_any src W2).mono ?_
    rintro e w' ⟨rfl, rfl⟩
    rw [HS.out]
    go_wp2_with ((apply store_by rfl _ _ _ rfl _ rfl); (focus (with_reducible assumption)); (focus rfl))
    refine bodyPost_ret (results_cell2 Tryd.results38 _ _ (w.heap.size + 1) 74 (c4 0 0 0 0 0 (.slice none 0 0)) _ rfl KF Tryd.underlying74 rfl Tryd.sizeP4) rfl (x4_bad (by decide) rfl HE.out)
  have HS := Lib.hid hs
  cases hd : w32 dst
  case false =>
    have hq : Q = 1 := by have := HQ2.out; rw [if_pos (by simp [hd])] at this; exact this.symm
    subst hq
    have st := sto4 KR 0 0 0 0 0 none 0 0
    have KF := KR.row (c4 0 0 0 0 0 (.slice none 0 0))
    have HE := Lib.hid (E1.row (k := w.heap.size + 1) (Nat.le_succ _) (c4 0 0 0 0 0 (.slice none 0 0)))
    have HD := Lib.hid hd
    clear hs hd E1 KP KR
    go_wp2_with fail
    refine (is_any src W2).mono ?_
    rintro e w' ⟨rfl, rfl⟩
    rw [HS.out]
    go_wp2_with fail
    refine (is_any dst W2).mono ?_
    rintro e w' ⟨rfl, rfl⟩
    rw [HD.out]
    go_wp2_with ((apply store_by rfl _ _ _ rfl _ rfl); (focus (with_reducible assumption)); (focus rfl))
    refine bodyPost_ret (results_cell2 Tryd.results38 _ _ (w.heap.size + 1) 74 (c4 0 0 0 0 0 (.slice none 0 0)) _ rfl KF Tryd.underlying74 rfl Tryd.sizeP4) rfl (x4_bad (by decide) rfl HE.out)
  have HD := Lib.hid hd
  have hQ3 : (if Pl.opQ p.kind xs (val6 p.src p.dst p.kind n) ≠ 0 then Pl.opQ p.kind xs (val6 p.src p.dst p.kind n) else if p.hop < 2 then 7 else 0) = Q := by
    have := HQ2.out
    rw [if_neg (by simp [hs, hd])] at this
    exact this
  have HQ3 := Lib.hid hQ3
  clear hs hd hQ3 HQ2
  have ld := KP.p6
  go_wp2_with fail
  refine (is_any src W2).mono ?_
  rintro e w' ⟨rfl, rfl⟩
  rw [HS.out]
  go_wp2_with fail
  refine (is_any dst W2).mono ?_
  rintro e w' ⟨rfl, rfl⟩
  rw [HD.out]
  go_wp2_with ((apply load_by rfl _ _ rfl _ rfl); (focus (with_reducible assumption)))
  refine (open6_any p a n c xs W2 HG.out hn (HR.out.ext E1) HB.out hnc HC.out).mono ?_
  have HZ := Lib.hid (fun h => op_zero (k := p.kind) (over := val6 p.src p.dst p.kind n) HB.out h)
  generalize val6 p.src p.dst p.kind n = O at *
  obtain ⟨P, hP⟩ : ∃ P, Pl.opQ p.kind xs O = P := ⟨_, rfl⟩
  obtain ⟨V, hV⟩ : ∃ V, Pl.opV p.kind xs O = V := ⟨_, rfl⟩
  obtain ⟨D, hD⟩ : ∃ D, Pl.opD p.kind xs O = D := ⟨_, rfl⟩
  unfold OpGot
  rw [hP, hV, hD]
  rw [hP] at HZ HQ3
  rw [hV, hD] at HZ
  clear hP hV hD
  rintro e W3 ⟨a3, n3, c3, rfl, o3, q3⟩
  have KA := Blk.new W3 50 #[.int .i64 0, .int .i64 0, .int .i64 0, .int .i64 0, .int .i64 0, .int .i64 0, .int .i64 0, .slice none 0 0]
  have st := sto KA V a3 n3 c3
  have KB := KA.row (V.cells (.slice a3 n3 c3))
  have E3 := E1.trans q3
  have hs3 := E3.size
  have hq3 := q3.size
  have hkp := KP.lt
  have hkr := KR.lt
  have E4 := (E3.alloc (.cells #[.int .i64 0, .int .i64 0, .int .i64 0, .int .i64 0, .int .i64 0, .int .i64 0, .int .i64 0, .slice none 0 0] 50)).row hs3 (V.cells (.slice a3 n3 c3))
  have KP4 := ((KP.ext q3).alloc (.cells #[.int .i64 0, .int .i64 0, .int .i64 0, .int .i64 0, .int .i64 0, .int .i64 0, .int .i64 0, .slice none 0 0] 50)).farRow (show w.heap.size ≠ W3.heap.size by omega) (V.cells (.slice a3 n3 c3))
  have KR4 := ((KR.ext q3).alloc (.cells #[.int .i64 0, .int .i64 0, .int .i64 0, .int .i64 0, .int .i64 0, .int .i64 0, .int .i64 0, .slice none 0 0] 50)).farRow (show w.heap.size + 1 ≠ W3.heap.size by omega) (V.cells (.slice a3 n3 c3))
  have o4 := (o3.ext ((Ext.refl W3).alloc (.cells #[.int .i64 0, .int .i64 0, .int .i64 0, .int .i64 0, .int .i64 0, .int .i64 0, .int .i64 0, .slice none 0 0] 50))).rowOff (k := W3.heap.size) (fun j hj => by have := (o3.lt j hj).2; omega) (V.cells (.slice a3 n3 c3))
  clear KA E3 q3 o3 E1 KP KR ld
  by_cases hp : P = 0
  case neg =>
    have hq : Q = P := by have := HQ3.out; rw [if_pos hp] at this; exact this.symm
    subst hq
    rw [erv_ne hp]
    have s2 := sto4 KR4 0 0 0 0 0 none 0 0
    have KF := KR4.row (c4 0 0 0 0 0 (.slice none 0 0))
    have HE := Lib.hid (E4.row (k := w.heap.size + 1) (Nat.le_succ _) (c4 0 0 0 0 0 (.slice none 0 0)))
    have HN := Lib.hid hp
    unfold errv
    clear hp E4 KP4 KR4 KB o4
    go_wp2_with ((apply store_by rfl _ _ _ rfl _ rfl); (focus (with_reducible assumption)); (focus rfl))
    refine bodyPost_ret (results_cell2 Tryd.results38 _ _ (w.heap.size + 1) 74 (c4 0 0 0 0 0 (.slice none 0 0)) _ rfl KF Tryd.underlying74 rfl Tryd.sizeP4) rfl (x4_bad HN.out (erv_ne HN.out).symm HE.out)
  have hQ4 : (if p.hop < 2 then 7 else 0) = Q := by have := HQ3.out; rw [if_neg (by simpa using hp)] at this; exact this
  obtain ⟨hk, hVV, hDD, hok, _⟩ := HZ.out hp
  subst hp
  rw [erv_zero]
  obtain ⟨c16, c17, c18⟩ := KP4.p6nums
  have HK := Lib.hid hk
  clear hk c17 c18 HZ HQ3
  by_cases hh : p.hop < 2
  case pos =>
    have hq : Q = 7 := by rw [if_pos hh] at hQ4; exact hQ4.symm
    subst hq
    have s2 := sto4 KR4 0 0 0 0 0 none 0 0
    have KF := KR4.row (c4 0 0 0 0 0 (.slice none 0 0))
    have HE := Lib.hid (E4.row (k := w.heap.size + 1) (Nat.le_succ _) (c4 0 0 0 0 0 (.slice none 0 0)))
    clear hQ4 E4 KP4 KR4 KB o4 hVV hDD hok
    go_wp2_with ((apply store_by rfl _ _ _ rfl _ rfl); (focus (with_reducible assumption)); (focus rfl))
    refine bodyPost_ret (results_cell2 Tryd.results38 _ _ (w.heap.size + 1) 74 (c4 0 0 0 0 0 (.slice none 0 0)) _ rfl KF Tryd.underlying74 rfl Tryd.sizeP4) rfl (x4_bad (by decide) rfl HE.out)
  have hq : Q = 0 := by rw [if_neg hh] at hQ4; exact hQ4.symm
  subst hq
  obtain ⟨_, _, ⟨_, hhb⟩, _⟩ := P6.good_all HG.out
  have ew : IntKind.i64.wrap (p.hop - 1) = p.hop - 1 := IntWalk.i64_in _ (by omega)
  have lv := KB.seg
  obtain ⟨_, _, _, hv4, _, r4⟩ := o4.read
  cases hv4
  have hDl := r4.len
  have hok' : Pl.SegOk V n3 := by rw [hVV, ← hDl, hDD]; exact hok
  have hkV : V.kind = p.kind := by rw [hVV]; exact Pl.decSeg_kind _ _
  have hBody : body4 V src dst D = x4B p xs src dst 0 := by unfold x4B; rw [if_pos rfl, hVV, hDD]
  have hID : Pl.IsB D := by rw [hDD]; exact HB.out.drop _
  have HCL := Lib.hid (close4_any V src dst (p.hop - 1) a3 n3 c3 D _ hok' (w32_yes HS.out) (w32_yes HD.out) r4 hID)
  have HBO := Lib.hid hBody
  have HKV := Lib.hid hkV
  clear hQ4 hVV hDD hok r4 hDl hok' hkV hBody hID o4
  go_wp2_with (first | ((apply load_by rfl _ _ rfl _ rfl); (focus (with_reducible assumption))) | ((apply store_by rfl _ _ _ rfl _ rfl); (focus (with_reducible assumption)); (focus rfl)))
  refine HCL.out.mono ?_
  rintro e W5 ⟨a5, n5, c5, rfl, o5, q5⟩
  rw [HKV.out]
  rw [HBO.out] at o5
  have KR5 := KR4.ext q5
  have E5 := E4.trans q5
  have hsz := E4.size
  have hkr4 := KR4.lt
  have s5 := sto4 KR5 src dst (p.hop - 1) p.kind 0 a5 n5 c5
  have KF := KR5.row (c4 src dst (p.hop - 1) p.kind 0 (.slice a5 n5 c5))
  have HO := Lib.hid ((o5.rowOff (k := w.heap.size + 1) (fun j hj => by have := (o5.lt j hj).1; omega) (c4 src dst (p.hop - 1) p.kind 0 (.slice a5 n5 c5))).mono hsz)
  have HE := Lib.hid (E5.row (k := w.heap.size + 1) (Nat.le_succ _) (c4 src dst (p.hop - 1) p.kind 0 (.slice a5 n5 c5)))
  clear HCL o5 q5 KR5 E5 KR4 KP4 KB E4 lv st c16 ew
  unfold pk4
  go_wp2_with ((apply store_by rfl _ _ _ rfl _ rfl); (focus (with_reducible assumption)); (focus rfl))
  refine bodyPost_ret (results_cell2 Tryd.results38 _ _ (w.heap.size + 1) 74 (c4 src dst (p.hop - 1) p.kind 0 (.slice a5 n5 c5)) _ rfl KF Tryd.underlying74 rfl Tryd.sizeP4) rfl ⟨a5, n5, c5, rfl, HO.out, HE.out⟩
end Go.Proofs.YtkjchddidpjjmaaDoor
/- The document's Crossed4, of any packet. Conditions: as each theorem states them. -/
namespace Go.Proofs.YtkjchddidpjjmaaDoor
open Go.RowKit
set_option maxRecDepth 100000 in
set_option maxHeartbeats 4000000 in
theorem crossed4_any (p : P6) (a : Option Addr) (n c : Nat) (xs : List Int) (src dst : Int) (w : World) (hr : Ints .u8 w a n xs) (hb : Pl.IsB xs) (hnc : n ≤ c) (hc : a = none → c = 0) :
    Calls Tryd.prog 37 #[p.v (.slice a n c), .int .i64 src, .int .i64 dst] w (X4Got p xs src dst (x4Q p n xs src dst) (.int .i64 (x4Q p n xs src dst)) w) := by
  have KP := (Blk.new w 72 (p.cells (.slice a n c))).alloc (.cells (c4 0 0 0 0 0 (.slice none 0 0)) 74)
  have KR := Blk.at (n := w.heap.size + 1) (w.alloc (.cells (p.cells (.slice a n c)) 72)) 74 (c4 0 0 0 0 0 (.slice none 0 0)) (by simp)
  have E0 : Ext w _ := ((Ext.refl w).alloc (.cells (p.cells (.slice a n c)) 72)).alloc (.cells (c4 0 0 0 0 0 (.slice none 0 0)) 74)
  have HR := Lib.hid hr
  have HB := Lib.hid hb
  have HC := Lib.hid hc
  obtain ⟨Q, hQ⟩ : ∃ Q, x4Q p n xs src dst = Q := ⟨_, rfl⟩
  rw [hQ]
  have HQ := Lib.hid hQ
  obtain ⟨F, hF⟩ : ∃ F, p.fault n = F := ⟨_, rfl⟩
  have HF := Lib.hid hF
  have HCK := Lib.hid (fun W => hF ▸ rfault6_any p a n c W)
  clear hr hb hQ hF hc
  go_enter Tryd.func37, Tryd.ntmps37
  go_upto_region 1 with (fail)
  refine at_worldE (fun W => Ext w W ∧ Blk W w.heap.size 72 (p.cells (.slice a n c)) ∧ Blk W (w.heap.size + 1) 74 (c4 0 0 0 0 0 (.slice none 0 0))) ⟨E0, KP, KR⟩ ?_
  clear E0 KP KR
  rintro W1 ⟨E1, KP, KR⟩
  have ld := KP.p6
  go_wp2_with ((apply load_by rfl _ _ rfl _ rfl); (focus (with_reducible assumption)))
  refine (HCK.out W1).mono ?_
  rintro e W2 ⟨rfl, q2⟩
  replace E1 := E1.trans q2
  replace KP := KP.ext q2
  replace KR := KR.ext q2
  clear ld q2
  by_cases hf : F = 0
  case neg =>
    have hq : Q = F := by have := HQ.out; unfold x4Q at this; rw [HF.out, if_pos hf] at this; exact this.symm
    subst hq
    have hfb : (Q != 0) = true := by simpa using hf
    have st := sto4 KR 0 0 0 0 0 none 0 0
    have KF := KR.row (c4 0 0 0 0 0 (.slice none 0 0))
    have HE := Lib.hid (E1.row (k := w.heap.size + 1) (Nat.le_succ _) (c4 0 0 0 0 0 (.slice none 0 0)))
    have HN := Lib.hid hf
    clear hf E1 KP KR
    go_wp2_with ((apply store_by rfl _ _ _ rfl _ rfl); (focus (with_reducible assumption)); (focus rfl))
    refine bodyPost_ret (results_cell2 Tryd.results37 _ _ (w.heap.size + 1) 74 (c4 0 0 0 0 0 (.slice none 0 0)) _ rfl KF Tryd.underlying74 rfl Tryd.sizeP4) rfl (x4_bad HN.out rfl HE.out)
  subst hf
  obtain ⟨hg, hn⟩ := P6.fault_zero HF.out
  have HG := Lib.hid hg
  clear hg
  have hQ2 : (if ¬ (w32 src = true ∧ w32 dst = true) then 1 else if Pl.opQ p.kind xs (val6 p.src p.dst p.kind n) ≠ 0 then Pl.opQ p.kind xs (val6 p.src p.dst p.kind n) else if p.hop < 2 then 7 else 0) = Q := by
    have := HQ.out
    unfold x4Q at this
    rw [HF.out, if_neg (by simp)] at this
    exact this
  have HQ2 := Lib.hid hQ2
  clear hQ2 HQ
  cases hs : w32 src
  case false =>
    have hq : Q = 1 := by have := HQ2.out; rw [if_pos (by simp [hs])] at this; exact this.symm
    subst hq
    have st := sto4 KR 0 0 0 0 0 none 0 0
    have KF := KR.row (c4 0 0 0 0 0 (.slice none 0 0))
    have HE := Lib.hid (E1.row (k := w.heap.size + 1) (Nat.le_succ _) (c4 0 0 0 0 0 (.slice none 0 0)))
    have HS := Lib.hid hs
    clear hs E1 KP KR
    obtain ⟨B, hB⟩ : ∃ B, w32 dst = B := ⟨_, rfl⟩
    have HBB := Lib.hid hB
    clear hB
    go_wp2_with fail
    refine (isFour_any src W2).mono ?_
    rintro e w' ⟨rfl, rfl⟩
    rw [HS.out]
    go_wp2_with fail
    refine (isFour_any dst W2).mono ?_
    rintro e w' ⟨rfl, rfl⟩
    rw [HBB.out]
    go_wp2_with ((apply store_by rfl _ _ _ rfl _ rfl); (focus (with_reducible assumption)); (focus rfl))
    refine bodyPost_ret (results_cell2 Tryd.results37 _ _ (w.heap.size + 1) 74 (c4 0 0 0 0 0 (.slice none 0 0)) _ rfl KF Tryd.underlying74 rfl Tryd.sizeP4) rfl (x4_bad (by decide) rfl HE.out)
  have HS := Lib.hid hs
  cases hd : w32 dst
  case false =>
    have hq : Q = 1 := by have := HQ2.out; rw [if_pos (by simp [hd])] at this; exact this.symm
    subst hq
    have st := sto4 KR 0 0 0 0 0 none 0 0
    have KF := KR.row (c4 0 0 0 0 0 (.slice none 0 0))
    have HE := Lib.hid (E1.row (k := w.heap.size + 1) (Nat.le_succ _) (c4 0 0 0 0 0 (.slice none 0 0)))
    have HD := Lib.hid hd
    clear hs hd E1 KP KR
    go_wp2_with fail
    refine (isFour_any src W2).mono ?_
    rintro e w' ⟨rfl, rfl⟩
    rw [HS.out]
    go_wp2_with fail
    refine (isFour_any dst W2).mono ?_
    rintro e w' ⟨rfl, rfl⟩
    rw [HD.out]
    go_wp2_with ((apply store_by rfl _ _ _ rfl _ rfl); (focus (with_reducible assumption)); (focus rfl))
    refine bodyPost_ret (results_cell2 Tryd.results37 _ _ (w.heap.size + 1) 74 (c4 0 0 0 0 0 (.slice none 0 0)) _ rfl KF Tryd.underlying74 rfl Tryd.sizeP4) rfl (x4_bad (by decide) rfl HE.out)
  have HD := Lib.hid hd
  have hQ3 : (if Pl.opQ p.kind xs (val6 p.src p.dst p.kind n) ≠ 0 then Pl.opQ p.kind xs (val6 p.src p.dst p.kind n) else if p.hop < 2 then 7 else 0) = Q := by
    have := HQ2.out
    rw [if_neg (by simp [hs, hd])] at this
    exact this
  have HQ3 := Lib.hid hQ3
  clear hs hd hQ3 HQ2
  have ld := KP.p6
  go_wp2_with fail
  refine (isFour_any src W2).mono ?_
  rintro e w' ⟨rfl, rfl⟩
  rw [HS.out]
  go_wp2_with fail
  refine (isFour_any dst W2).mono ?_
  rintro e w' ⟨rfl, rfl⟩
  rw [HD.out]
  go_wp2_with ((apply load_by rfl _ _ rfl _ rfl); (focus (with_reducible assumption)))
  refine (rseg6_any p a n c xs W2 HG.out hn (HR.out.ext E1) HB.out hnc HC.out).mono ?_
  have HZ := Lib.hid (fun h => op_zero (k := p.kind) (over := val6 p.src p.dst p.kind n) HB.out h)
  generalize val6 p.src p.dst p.kind n = O at *
  obtain ⟨P, hP⟩ : ∃ P, Pl.opQ p.kind xs O = P := ⟨_, rfl⟩
  obtain ⟨V, hV⟩ : ∃ V, Pl.opV p.kind xs O = V := ⟨_, rfl⟩
  obtain ⟨D, hD⟩ : ∃ D, Pl.opD p.kind xs O = D := ⟨_, rfl⟩
  unfold ROpGot
  rw [hP, hV, hD]
  rw [hP] at HZ HQ3
  rw [hV, hD] at HZ
  clear hP hV hD
  rintro e W3 ⟨a3, n3, c3, rfl, r3, q3⟩
  have KA := Blk.new W3 50 #[.int .i64 0, .int .i64 0, .int .i64 0, .int .i64 0, .int .i64 0, .int .i64 0, .int .i64 0, .slice none 0 0]
  have st := sto KA V a3 n3 c3
  have KB := KA.row (V.cells (.slice a3 n3 c3))
  have E3 := E1.trans q3
  have hs3 := E3.size
  have hq3 := q3.size
  have hkp := KP.lt
  have hkr := KR.lt
  have E4 := (E3.alloc (.cells #[.int .i64 0, .int .i64 0, .int .i64 0, .int .i64 0, .int .i64 0, .int .i64 0, .int .i64 0, .slice none 0 0] 50)).row hs3 (V.cells (.slice a3 n3 c3))
  have KP4 := ((KP.ext q3).alloc (.cells #[.int .i64 0, .int .i64 0, .int .i64 0, .int .i64 0, .int .i64 0, .int .i64 0, .int .i64 0, .slice none 0 0] 50)).farRow (show w.heap.size ≠ W3.heap.size by omega) (V.cells (.slice a3 n3 c3))
  have KR4 := ((KR.ext q3).alloc (.cells #[.int .i64 0, .int .i64 0, .int .i64 0, .int .i64 0, .int .i64 0, .int .i64 0, .int .i64 0, .slice none 0 0] 50)).farRow (show w.heap.size + 1 ≠ W3.heap.size by omega) (V.cells (.slice a3 n3 c3))
  have r4 := Ints.keepRow (r3.ext ((Ext.refl W3).alloc (.cells #[.int .i64 0, .int .i64 0, .int .i64 0, .int .i64 0, .int .i64 0, .int .i64 0, .int .i64 0, .slice none 0 0] 50))) W3.heap.size (V.cells (.slice a3 n3 c3)) (fun h0 p hp => by
    obtain ⟨b, o, rfl, hb, _⟩ := r3.at h0
    cases hp
    show b ≠ _
    omega)
  clear KA E3 q3 r3 E1 KP KR ld
  by_cases hp : P = 0
  case neg =>
    have hq : Q = P := by have := HQ3.out; rw [if_pos hp] at this; exact this.symm
    subst hq
    have hpb : (Q != 0) = true := by simpa using hp
    have hpe : (Q == 0) = false := by simpa using hp
    have s2 := sto4 KR4 0 0 0 0 0 none 0 0
    have KF := KR4.row (c4 0 0 0 0 0 (.slice none 0 0))
    have HE := Lib.hid (E4.row (k := w.heap.size + 1) (Nat.le_succ _) (c4 0 0 0 0 0 (.slice none 0 0)))
    have HN := Lib.hid hp
    clear hp E4 KP4 KR4 KB r4
    go_wp2_with ((apply store_by rfl _ _ _ rfl _ rfl); (focus (with_reducible assumption)); (focus rfl))
    refine bodyPost_ret (results_cell2 Tryd.results37 _ _ (w.heap.size + 1) 74 (c4 0 0 0 0 0 (.slice none 0 0)) _ rfl KF Tryd.underlying74 rfl Tryd.sizeP4) rfl (x4_bad HN.out rfl HE.out)
  have hQ4 : (if p.hop < 2 then 7 else 0) = Q := by have := HQ3.out; rw [if_neg (by simpa using hp)] at this; exact this
  obtain ⟨hk, hVV, hDD, hok, _⟩ := HZ.out hp
  subst hp
  obtain ⟨c16, c17, c18⟩ := KP4.p6nums
  have HK := Lib.hid hk
  clear hk c17 c18 HZ HQ3
  by_cases hh : p.hop < 2
  case pos =>
    have hq : Q = 7 := by rw [if_pos hh] at hQ4; exact hQ4.symm
    subst hq
    have s2 := sto4 KR4 0 0 0 0 0 none 0 0
    have KF := KR4.row (c4 0 0 0 0 0 (.slice none 0 0))
    have HE := Lib.hid (E4.row (k := w.heap.size + 1) (Nat.le_succ _) (c4 0 0 0 0 0 (.slice none 0 0)))
    clear hQ4 E4 KP4 KR4 KB r4 hVV hDD hok
    go_wp2_with ((apply store_by rfl _ _ _ rfl _ rfl); (focus (with_reducible assumption)); (focus rfl))
    refine bodyPost_ret (results_cell2 Tryd.results37 _ _ (w.heap.size + 1) 74 (c4 0 0 0 0 0 (.slice none 0 0)) _ rfl KF Tryd.underlying74 rfl Tryd.sizeP4) rfl (x4_bad (by decide) rfl HE.out)
  have hq : Q = 0 := by rw [if_neg hh] at hQ4; exact hQ4.symm
  subst hq
  obtain ⟨_, _, ⟨_, hhb⟩, _⟩ := P6.good_all HG.out
  have ew : IntKind.i64.wrap (p.hop - 1) = p.hop - 1 := IntWalk.i64_in _ (by omega)
  have lv := KB.seg
  have hDl := r4.len
  have hok' : Pl.SegOk V n3 := by rw [hVV, ← hDl, hDD]; exact hok
  have hkV : V.kind = p.kind := by rw [hVV]; exact Pl.decSeg_kind _ _
  have hBody : body4 V src dst D = x4B p xs src dst 0 := by unfold x4B; rw [if_pos rfl, hVV, hDD]
  have hID : Pl.IsB D := by rw [hDD]; exact HB.out.drop _
  have HCL := Lib.hid (rpacked4_any V src dst (p.hop - 1) a3 n3 c3 D _ hok' (w32_yes HS.out) (w32_yes HD.out) r4 hID)
  have HBO := Lib.hid hBody
  have HKV := Lib.hid hkV
  clear hQ4 hVV hDD hok r4 hDl hok' hkV hBody hID
  go_wp2_with (first | ((apply load_by rfl _ _ rfl _ rfl); (focus (with_reducible assumption))) | ((apply store_by rfl _ _ _ rfl _ rfl); (focus (with_reducible assumption)); (focus rfl)))
  refine HCL.out.mono ?_
  rintro e W5 ⟨a5, n5, c5, rfl, o5, q5⟩
  rw [HKV.out]
  rw [HBO.out] at o5
  have KR5 := KR4.ext q5
  have E5 := E4.trans q5
  have hsz := E4.size
  have hkr4 := KR4.lt
  have s5 := sto4 KR5 src dst (p.hop - 1) p.kind 0 a5 n5 c5
  have KF := KR5.row (c4 src dst (p.hop - 1) p.kind 0 (.slice a5 n5 c5))
  have HO := Lib.hid ((o5.rowOff (k := w.heap.size + 1) (fun j hj => by have := (o5.lt j hj).1; omega) (c4 src dst (p.hop - 1) p.kind 0 (.slice a5 n5 c5))).mono hsz)
  have HE := Lib.hid (E5.row (k := w.heap.size + 1) (Nat.le_succ _) (c4 src dst (p.hop - 1) p.kind 0 (.slice a5 n5 c5)))
  clear HCL o5 q5 KR5 E5 KR4 KP4 KB E4 lv st c16 ew
  unfold pk4
  go_wp2_with ((apply store_by rfl _ _ _ rfl _ rfl); (focus (with_reducible assumption)); (focus rfl))
  refine bodyPost_ret (results_cell2 Tryd.results37 _ _ (w.heap.size + 1) 74 (c4 src dst (p.hop - 1) p.kind 0 (.slice a5 n5 c5)) _ rfl KF Tryd.underlying74 rfl Tryd.sizeP4) rfl ⟨a5, n5, c5, rfl, HO.out, HE.out⟩
end Go.Proofs.YtkjchddidpjjmaaDoor
/- ip4: exact contracts of Check, of Encode where it refuses, of Decode. Conditions: as each theorem states them. -/
namespace Go.Proofs.YtkjchddidpjjmaaDoor
open Go.RowKit
namespace Pl
theorem take_getD4 (xs : List Int) : ∀ n, n ≤ xs.length → xs.take n = (List.range n).map (fun i => xs.getD i 0)
  | 0, _ => by simp
  | n + 1, h => by
    rw [take_snoc xs n (by omega), take_getD4 xs n (by omega), List.range_succ, List.map_append]
    rfl
theorem cat2 {a b : Int} (hb : 0 ≤ b ∧ b ≤ 255) {x : Int} : (x / 256 = a ∧ x % 256 = b) ↔ a * 256 + b = x := by omega
theorem four_at4 {xs : List Int} (hb : IsB xs) (i : Nat) : four (at4 xs i) = [xs.getD i 0, xs.getD (i + 1) 0, xs.getD (i + 2) 0, xs.getD (i + 3) 0] := by
  have h0 := hb.getD i
  have h1 := hb.getD (i + 1)
  have h2 := hb.getD (i + 2)
  have h3 := hb.getD (i + 3)
  unfold four at4
  generalize xs.getD i 0 = x0 at *
  generalize xs.getD (i + 1) 0 = x1 at *
  generalize xs.getD (i + 2) 0 = x2 at *
  generalize xs.getD (i + 3) 0 = x3 at *
  simp only [List.cons.injEq, and_true]
  omega
/-- The numbers that bytes give, written. -/
theorem enc4_list {xs : List Int} (hb : IsB xs) (h0 : 20 ≤ xs.length) (C : Int) :
    head4 (at4 xs 12) (at4 xs 16) (xs.getD 8 0) (xs.getD 9 0) (at2 xs 4) ((xs.drop 20).length : Nat) C ++ xs.drop 20 =
      [69, 0, (xs.length : Int) / 256, (xs.length : Int) % 256, xs.getD 4 0, xs.getD 5 0, 64, 0, xs.getD 8 0, xs.getD 9 0, C / 256, C % 256, xs.getD 12 0, xs.getD 13 0, xs.getD 14 0, xs.getD 15 0, xs.getD 16 0, xs.getD 17 0, xs.getD 18 0, xs.getD 19 0] ++ xs.drop 20 := by
  have hl : (20 : Int) + ((xs.drop 20).length : Nat) = xs.length := by rw [List.length_drop]; omega
  have h4 := (cat2 (a := xs.getD 4 0) (x := at2 xs 4) (hb.getD 5)).2 rfl
  unfold head4
  rw [four_at4 hb 12, four_at4 hb 16]
  unfold first4
  rw [hl, h4.1, h4.2]
  rfl
theorem list20 {xs : List Int} (h0 : 20 ≤ xs.length) : xs = [xs.getD 0 0, xs.getD 1 0, xs.getD 2 0, xs.getD 3 0, xs.getD 4 0, xs.getD 5 0, xs.getD 6 0, xs.getD 7 0, xs.getD 8 0, xs.getD 9 0, xs.getD 10 0, xs.getD 11 0, xs.getD 12 0, xs.getD 13 0, xs.getD 14 0, xs.getD 15 0, xs.getD 16 0, xs.getD 17 0, xs.getD 18 0, xs.getD 19 0] ++ xs.drop 20 := by
  have ht := List.take_append_drop 20 xs
  rw [take_getD4 xs 20 h0] at ht
  exact ht.symm
theorem enc4_iff {xs : List Int} (hb : IsB xs) (h0 : 20 ≤ xs.length) (h1 : xs.length ≤ 340) :
    enc4 (at4 xs 12) (at4 xs 16) (xs.getD 8 0) (xs.getD 9 0) (at2 xs 4) (xs.drop 20) = xs ↔ (Shape4 xs ∧ at2 xs 10 = sum4 (at4 xs 12) (at4 xs 16) (xs.getD 8 0) (xs.getD 9 0) (at2 xs 4) ((xs.drop 20).length : Nat)) := by
  have hs := sum4_bd (at4 xs 12) (at4 xs 16) (xs.getD 8 0) (xs.getD 9 0) (at2 xs 4) ((xs.drop 20).length : Nat)
  unfold enc4
  generalize sum4 (at4 xs 12) (at4 xs 16) (xs.getD 8 0) (xs.getD 9 0) (at2 xs 4) ((xs.drop 20).length : Nat) = C at *
  rw [enc4_list hb h0 C]
  conv => lhs; rhs; rw [list20 h0]
  rw [List.append_cancel_right_eq]
  simp only [List.cons.injEq, and_true, true_and]
  unfold Shape4
  have B := fun i => hb.getD i
  have b0 := B 0
  have b1 := B 1
  have b6 := B 6
  have b7 := B 7
  have e0 := cat2 (x := 17664) (a := xs.getD 0 0) b1
  have e2 := cat2 (x := xs.length) (a := xs.getD 2 0) (B 3)
  have e6 := cat2 (x := 16384) (a := xs.getD 6 0) b7
  have e10 := cat2 (x := C) (a := xs.getD 10 0) (B 11)
  show _ ↔ (_ ∧ xs.getD 0 0 * 256 + xs.getD 1 0 = 17664 ∧ xs.getD 2 0 * 256 + xs.getD 3 0 = xs.length ∧ xs.getD 6 0 * 256 + xs.getD 7 0 = 16384) ∧ xs.getD 10 0 * 256 + xs.getD 11 0 = C
  rw [← e0, ← e2, ← e6, ← e10]
  constructor
  · rintro ⟨a0, a1, a2, a3, a6, a7, a10, a11⟩
    exact ⟨⟨⟨h0, h1⟩, ⟨by omega, by omega⟩, ⟨a2, a3⟩, ⟨by omega, by omega⟩⟩, a10, a11⟩
  · rintro ⟨⟨_, ⟨a0, a1⟩, ⟨a2, a3⟩, ⟨a6, a7⟩⟩, a10, a11⟩
    exact ⟨by omega, by omega, a2, a3, by omega, by omega, a10, a11⟩
theorem patch4_iff {xs : List Int} (hb : IsB xs) (h0 : 20 ≤ xs.length) (h1 : xs.length ≤ 340) :
    patch4 (enc4 (at4 xs 12) (at4 xs 16) (xs.getD 8 0) (xs.getD 9 0) (at2 xs 4) (xs.drop 20)) xs = xs ↔ Shape4 xs := by
  unfold enc4
  rw [enc4_list hb h0 _]
  have hp : (xs.drop 10).take 2 = [xs.getD 10 0, xs.getD 11 0] := by
    conv => lhs; rw [list20 h0]
    rfl
  unfold patch4
  rw [hp]
  show [69, 0, (xs.length : Int) / 256, (xs.length : Int) % 256, xs.getD 4 0, xs.getD 5 0, 64, 0, xs.getD 8 0, xs.getD 9 0, xs.getD 10 0, xs.getD 11 0, xs.getD 12 0, xs.getD 13 0, xs.getD 14 0, xs.getD 15 0, xs.getD 16 0, xs.getD 17 0, xs.getD 18 0, xs.getD 19 0] ++ xs.drop 20 = xs ↔ _
  conv => lhs; rhs; rw [list20 h0]
  rw [List.append_cancel_right_eq]
  simp only [List.cons.injEq, and_true, true_and]
  unfold Shape4
  have B := fun i => hb.getD i
  have b0 := B 0
  have b1 := B 1
  have b6 := B 6
  have b7 := B 7
  have e0 := cat2 (x := 17664) (a := xs.getD 0 0) b1
  have e2 := cat2 (x := xs.length) (a := xs.getD 2 0) (B 3)
  have e6 := cat2 (x := 16384) (a := xs.getD 6 0) b7
  show _ ↔ (_ ∧ xs.getD 0 0 * 256 + xs.getD 1 0 = 17664 ∧ xs.getD 2 0 * 256 + xs.getD 3 0 = xs.length ∧ xs.getD 6 0 * 256 + xs.getD 7 0 = 16384)
  rw [← e0, ← e2, ← e6]
  constructor
  · rintro ⟨a0, a1, a2, a3, a6, a7⟩
    exact ⟨⟨h0, h1⟩, ⟨by omega, by omega⟩, ⟨a2, a3⟩, ⟨by omega, by omega⟩⟩
  · rintro ⟨_, ⟨a0, a1⟩, ⟨a2, a3⟩, ⟨a6, a7⟩⟩
    exact ⟨by omega, by omega, a2, a3, by omega, by omega⟩
theorem ok4_iff {s d t k i : Int} : ok4b s d t k i = true ↔ Ok4 s d t k i := ⟨ok4b_yes, fun h => by
  cases he : ok4b s d t k i with
  | true => rfl
  | false => exact absurd h (ok4b_no he)⟩
end Pl
theorem fault4_zero {s d t k i : Int} {n : Nat} (h : fault4 s d t k i n = 0) : Pl.Ok4 s d t k i ∧ n ≤ 320 := by
  unfold fault4 at h
  by_cases hk : ok4b s d t k i = true
  · rw [if_pos hk] at h
    by_cases hn : n ≤ 320
    · exact ⟨ok4b_yes hk, hn⟩
    · rw [if_neg hn] at h; omega
  · rw [if_neg hk] at h; omega
theorem check4p_any (s d t k i : Int) (a : Option Addr) (n c : Nat) (w : World) :
    Calls Tryd.prog 84 #[pk4 s d t k i (.slice a n c)] w fun e w' => e = .returned (erv (fault4 s d t k i n)) ∧ Ext w w' := by
  unfold fault4
  by_cases hk : ok4b s d t k i = true
  · rw [if_pos hk]
    by_cases hn : n ≤ 320
    · rw [if_pos hn]
      exact check4_ok s d t k i a n c w (ok4b_yes hk) hn
    · rw [if_neg hn]
      exact check4_full s d t k i a n c w (ok4b_yes hk) (by omega)
  · rw [if_neg hk]
    exact check4_range s d t k i a n c w (fun h => hk (Pl.ok4_iff.2 h))
theorem encode4_err (s d t k i : Int) (a : Option Addr) (n c : Nat) (w : World) (h : fault4 s d t k i n ≠ 0) :
    Calls Tryd.prog 44 #[pk4 s d t k i (.slice a n c)] w fun e w' => e = .returned (.tuple #[.slice none 0 0, erv (fault4 s d t k i n)]) ∧ Ext w w' := by
  have E0 : Ext w (w.alloc (.cells #[.int .i64 s, .int .i64 d, .int .i64 t, .int .i64 k, .int .i64 i, .slice a n c] 74)) := (Ext.refl w).alloc _
  have KEY := Lib.hid (fun W => check4p_any s d t k i a n c W)
  obtain ⟨E, hE⟩ : ∃ E, fault4 s d t k i n = E := ⟨_, rfl⟩
  rw [hE] at KEY h ⊢
  have he := erv_ne h
  rw [he] at KEY
  have HE := Lib.hid he
  clear hE h he
  unfold pk4
  unfold errv at KEY
  go_enter Tryd.func44, Tryd.ntmps44
  go_wp2_with fail
  refine (KEY.out _).mono ?_
  rintro e W2 ⟨rfl, q2⟩
  have E2 := E0.trans q2
  go_wp2_with fail
  go_ret2
  exact ⟨by rw [HE.out]; rfl, E2⟩
/-- Decode, exactly. -/
theorem decode4_all (a : Option Addr) (n c : Nat) (xs : List Int) (w : World) (hr : Ints .u8 w a n xs) (hb : Pl.IsB xs) (hnc : n ≤ c) :
    Calls Tryd.prog 45 #[.slice a n c] w fun e w' =>
      (¬ Pl.Shape4 xs → e = .returned (.tuple #[pk4 0 0 0 0 0 (.slice none 0 0), errv 5])) ∧
      (Pl.Shape4 xs → Pl.at2 xs 10 ≠ Pl.sum4 (Pl.at4 xs 12) (Pl.at4 xs 16) (xs.getD 8 0) (xs.getD 9 0) (Pl.at2 xs 4) ((xs.drop 20).length : Nat) → e = .returned (.tuple #[pk4 0 0 0 0 0 (.slice none 0 0), errv 6])) ∧
      (Pl.Shape4 xs → Pl.at2 xs 10 = Pl.sum4 (Pl.at4 xs 12) (Pl.at4 xs 16) (xs.getD 8 0) (xs.getD 9 0) (Pl.at2 xs 4) ((xs.drop 20).length : Nat) → ∃ v, e = .returned (.tuple #[pk4 (Pl.at4 xs 12) (Pl.at4 xs 16) (xs.getD 8 0) (xs.getD 9 0) (Pl.at2 xs 4) v, .nilIface]) ∧ Own w' w.heap.size v (xs.drop 20)) ∧ Ext w w' := by
  have hl := hr.len
  by_cases h0 : n < 20 ∨ 340 < n
  · refine (decode4_short a n c w h0).mono fun e w' ⟨he, hw⟩ => ⟨fun _ => he, fun hS => absurd hS.1 (by omega), fun hS => absurd hS.1 (by omega), hw⟩
  · obtain ⟨b, off, rfl, hbl, _⟩ := hr.at (by omega)
    refine (decode4_core b off n c xs w _ _ _ _ _ _ hr hbl hnc (by omega) (by omega) (Pl.ok4_of hb) rfl rfl rfl rfl rfl rfl hb).mono fun e w' h => ?_
    obtain ⟨h1, h2, h3, h4⟩ := h
    have hE := Pl.enc4_iff hb (by omega) (by omega)
    have hP := Pl.patch4_iff hb (by omega) (by omega)
    refine ⟨fun hS => h3 (fun he => hS (hE.1 he).1) (fun hp => hS (hP.1 hp)), fun hS hne => h2 (fun he => hne (hE.1 he).2) (hP.2 hS), fun hS heq => h1 (hE.2 ⟨hS, heq⟩), h4⟩
end Go.Proofs.YtkjchddidpjjmaaDoor
/- cross.To6, of any packet. Conditions: as each theorem states them. -/
namespace Go.Proofs.YtkjchddidpjjmaaDoor
open Go.RowKit
/-- What is wrong with a packet of fours that is to cross. -/
def x6Q (s d t k i : Int) (n : Nat) (xs : List Int) (src dst : Six) : Int :=
  if fault4 s d t k i n ≠ 0 then fault4 s d t k i n else if ¬ (okS src = true ∧ okS dst = true) then 1
  else if Pl.opQ k xs (val4 s d k n) ≠ 0 then Pl.opQ k xs (val4 s d k n) else if t < 2 then 7 else 0
def x6B (k : Int) (xs : List Int) (src dst : Six) (Q : Int) : List Int := if Q = 0 then body6 (Pl.decSeg k xs) src dst (xs.drop (Pl.segSize k)) else []
def x6p (t k : Int) (src dst : Six) (Q : Int) : P6 := if Q = 0 then ⟨src, dst, t - 1, k⟩ else ⟨⟨0, 0, 0, 0, 0, 0, 0, 0⟩, ⟨0, 0, 0, 0, 0, 0, 0, 0⟩, 0, 0⟩
def X6Got (t k : Int) (xs : List Int) (src dst : Six) (Q : Int) (err : Value) (w : World) (e : Ending) (w' : World) : Prop :=
  ∃ a n c, e = .returned (.tuple #[.agg ((x6p t k src dst Q).cells (.slice a n c)), err]) ∧ Own w' w.heap.size (.slice a n c) (x6B k xs src dst Q) ∧ Ext w w'
theorem x6_bad {t k : Int} {xs : List Int} {src dst : Six} {Q : Int} {err v : Value} {w w' : World} (hq : Q ≠ 0) (hv : v = err) (he : Ext w w') : X6Got t k xs src dst Q err w (.returned (.tuple #[.agg #[.int .i64 0, .int .i64 0, .int .i64 0, .int .i64 0, .int .i64 0, .int .i64 0, .int .i64 0, .int .i64 0, .int .i64 0, .int .i64 0, .int .i64 0, .int .i64 0, .int .i64 0, .int .i64 0, .int .i64 0, .int .i64 0, .int .i64 0, .int .i64 0, .slice none 0 0], v])) w' := by
  subst hv
  refine ⟨none, 0, 0, ?_, ?_, he⟩
  · unfold x6p
    rw [if_neg hq]
    rfl
  · unfold x6B
    rw [if_neg hq]
    exact Own.nil _ _
set_option maxRecDepth 100000 in
set_option maxHeartbeats 4000000 in
theorem to6_any (s d t k i : Int) (a : Option Addr) (n c : Nat) (xs : List Int) (src dst : Six) (w : World) (hr : Ints .u8 w a n xs) (hb : Pl.IsB xs) (hnc : n ≤ c) (hc : a = none → c = 0) :
    Calls Tryd.prog 41 #[.agg (c4 s d t k i (.slice a n c)), src.v, dst.v] w (X6Got t k xs src dst (x6Q s d t k i n xs src dst) (erv (x6Q s d t k i n xs src dst)) w) := by
  have KP := (((Blk.new w 74 (c4 s d t k i (.slice a n c))).alloc (.cells src.cells 23)).alloc (.cells dst.cells 23)).alloc (.cells #[.int .i64 0, .int .i64 0, .int .i64 0, .int .i64 0, .int .i64 0, .int .i64 0, .int .i64 0, .int .i64 0, .int .i64 0, .int .i64 0, .int .i64 0, .int .i64 0, .int .i64 0, .int .i64 0, .int .i64 0, .int .i64 0, .int .i64 0, .int .i64 0, .slice none 0 0] 72)
  have KA := ((Blk.at (n := w.heap.size + 1) (w.alloc (.cells (c4 s d t k i (.slice a n c)) 74)) 23 src.cells (by simp)).alloc (.cells dst.cells 23)).alloc (.cells #[.int .i64 0, .int .i64 0, .int .i64 0, .int .i64 0, .int .i64 0, .int .i64 0, .int .i64 0, .int .i64 0, .int .i64 0, .int .i64 0, .int .i64 0, .int .i64 0, .int .i64 0, .int .i64 0, .int .i64 0, .int .i64 0, .int .i64 0, .int .i64 0, .slice none 0 0] 72)
  have KB := (Blk.at (n := w.heap.size + 2) ((w.alloc (.cells (c4 s d t k i (.slice a n c)) 74)).alloc (.cells src.cells 23)) 23 dst.cells (by simp)).alloc (.cells #[.int .i64 0, .int .i64 0, .int .i64 0, .int .i64 0, .int .i64 0, .int .i64 0, .int .i64 0, .int .i64 0, .int .i64 0, .int .i64 0, .int .i64 0, .int .i64 0, .int .i64 0, .int .i64 0, .int .i64 0, .int .i64 0, .int .i64 0, .int .i64 0, .slice none 0 0] 72)
  have KR := Blk.at (n := w.heap.size + 3) (((w.alloc (.cells (c4 s d t k i (.slice a n c)) 74)).alloc (.cells src.cells 23)).alloc (.cells dst.cells 23)) 72 #[.int .i64 0, .int .i64 0, .int .i64 0, .int .i64 0, .int .i64 0, .int .i64 0, .int .i64 0, .int .i64 0, .int .i64 0, .int .i64 0, .int .i64 0, .int .i64 0, .int .i64 0, .int .i64 0, .int .i64 0, .int .i64 0, .int .i64 0, .int .i64 0, .slice none 0 0] (by simp)
  have E0 : Ext w _ := ((((Ext.refl w).alloc (.cells (c4 s d t k i (.slice a n c)) 74)).alloc (.cells src.cells 23)).alloc (.cells dst.cells 23)).alloc (.cells #[.int .i64 0, .int .i64 0, .int .i64 0, .int .i64 0, .int .i64 0, .int .i64 0, .int .i64 0, .int .i64 0, .int .i64 0, .int .i64 0, .int .i64 0, .int .i64 0, .int .i64 0, .int .i64 0, .int .i64 0, .int .i64 0, .int .i64 0, .int .i64 0, .slice none 0 0] 72)
  have HR := Lib.hid hr
  have HB := Lib.hid hb
  have HC := Lib.hid hc
  obtain ⟨Q, hQ⟩ : ∃ Q, x6Q s d t k i n xs src dst = Q := ⟨_, rfl⟩
  rw [hQ]
  have HQ := Lib.hid hQ
  obtain ⟨F, hF⟩ : ∃ F, fault4 s d t k i n = F := ⟨_, rfl⟩
  have HF := Lib.hid hF
  have HCK := Lib.hid (fun W => (show Calls Tryd.prog 84 #[.agg (c4 s d t k i (.slice a n c))] W (fun e w' => e = .returned (erv F) ∧ Ext W w') from hF ▸ check4p_any s d t k i a n c W))
  clear hr hb hQ hF hc
  unfold Six.v
  go_enter Tryd.func41, Tryd.ntmps41
  go_upto_region 1 with (fail)
  refine at_worldE (fun W => Ext w W ∧ Blk W w.heap.size 74 (c4 s d t k i (.slice a n c)) ∧ Blk W (w.heap.size + 1) 23 src.cells ∧ Blk W (w.heap.size + 2) 23 dst.cells ∧ Blk W (w.heap.size + 3) 72 #[.int .i64 0, .int .i64 0, .int .i64 0, .int .i64 0, .int .i64 0, .int .i64 0, .int .i64 0, .int .i64 0, .int .i64 0, .int .i64 0, .int .i64 0, .int .i64 0, .int .i64 0, .int .i64 0, .int .i64 0, .int .i64 0, .int .i64 0, .int .i64 0, .slice none 0 0]) ⟨E0, KP, KA, KB, KR⟩ ?_
  clear E0 KP KA KB KR
  rintro W1 ⟨E1, KP, KA, KB, KR⟩
  have ld := KP.p4
  go_wp2_with ((apply load_by rfl _ _ rfl _ rfl); (focus (with_reducible assumption)))
  refine (HCK.out W1).mono ?_
  rintro e W2 ⟨rfl, q2⟩
  replace E1 := E1.trans q2
  replace KP := KP.ext q2
  replace KA := KA.ext q2
  replace KB := KB.ext q2
  replace KR := KR.ext q2
  clear ld q2
  by_cases hf : F = 0
  case neg =>
    have hq : Q = F := by have := HQ.out; unfold x6Q at this; rw [HF.out, if_pos hf] at this; exact this.symm
    subst hq
    rw [erv_ne hf]
    have st0 := sto60 KR
    have KF := KR.row #[.int .i64 0, .int .i64 0, .int .i64 0, .int .i64 0, .int .i64 0, .int .i64 0, .int .i64 0, .int .i64 0, .int .i64 0, .int .i64 0, .int .i64 0, .int .i64 0, .int .i64 0, .int .i64 0, .int .i64 0, .int .i64 0, .int .i64 0, .int .i64 0, .slice none 0 0]
    have HE := Lib.hid (E1.row (k := w.heap.size + 3) (by omega) #[.int .i64 0, .int .i64 0, .int .i64 0, .int .i64 0, .int .i64 0, .int .i64 0, .int .i64 0, .int .i64 0, .int .i64 0, .int .i64 0, .int .i64 0, .int .i64 0, .int .i64 0, .int .i64 0, .int .i64 0, .int .i64 0, .int .i64 0, .int .i64 0, .slice none 0 0])
    have HN := Lib.hid hf
    unfold errv
    clear hf E1 KP KA KB KR
    go_wp2_with ((apply store_by rfl _ _ _ rfl _ rfl); (focus (with_reducible assumption)); (focus rfl))
    refine bodyPost_ret (results_cell2 Tryd.results41 _ _ (w.heap.size + 3) 72 #[.int .i64 0, .int .i64 0, .int .i64 0, .int .i64 0, .int .i64 0, .int .i64 0, .int .i64 0, .int .i64 0, .int .i64 0, .int .i64 0, .int .i64 0, .int .i64 0, .int .i64 0, .int .i64 0, .int .i64 0, .int .i64 0, .int .i64 0, .int .i64 0, .slice none 0 0] _ rfl KF Tryd.underlying72 rfl Tryd.sizeP6) rfl (x6_bad HN.out (erv_ne HN.out).symm HE.out)
  subst hf
  rw [erv_zero]
  have HOK := Lib.hid (fault4_zero HF.out)
  have hn := HOK.out.2
  have HQ2 := Lib.hid (show (if ¬ (okS src = true ∧ okS dst = true) then 1 else if Pl.opQ k xs (val4 s d k n) ≠ 0 then Pl.opQ k xs (val4 s d k n) else if t < 2 then 7 else 0) = Q by
    have := HQ.out
    unfold x6Q at this
    rw [HF.out, if_neg (by simp)] at this
    exact this)
  have ls := KA.six0
  clear HQ
  cases hs : okS src
  case false =>
    have hq : Q = 1 := by have := HQ2.out; rw [if_pos (by simp [hs])] at this; exact this.symm
    subst hq
    have HS := Lib.hid hs
    clear hs
    go_wp2_with ((apply load_by rfl _ _ rfl _ rfl); (focus (with_reducible assumption)))
    refine (check6_no src W2 HS.out).mono ?_
    rintro e W3 ⟨rfl, q3⟩
    replace E1 := E1.trans q3
    replace KR := KR.ext q3
    have st0 := sto60 KR
    have KF := KR.row #[.int .i64 0, .int .i64 0, .int .i64 0, .int .i64 0, .int .i64 0, .int .i64 0, .int .i64 0, .int .i64 0, .int .i64 0, .int .i64 0, .int .i64 0, .int .i64 0, .int .i64 0, .int .i64 0, .int .i64 0, .int .i64 0, .int .i64 0, .int .i64 0, .slice none 0 0]
    have HE := Lib.hid (E1.row (k := w.heap.size + 3) (by omega) #[.int .i64 0, .int .i64 0, .int .i64 0, .int .i64 0, .int .i64 0, .int .i64 0, .int .i64 0, .int .i64 0, .int .i64 0, .int .i64 0, .int .i64 0, .int .i64 0, .int .i64 0, .int .i64 0, .int .i64 0, .int .i64 0, .int .i64 0, .int .i64 0, .slice none 0 0])
    unfold errv
    clear ls E1 KP KA KB KR q3
    go_wp2_with ((apply store_by rfl _ _ _ rfl _ rfl); (focus (with_reducible assumption)); (focus rfl))
    refine bodyPost_ret (results_cell2 Tryd.results41 _ _ (w.heap.size + 3) 72 #[.int .i64 0, .int .i64 0, .int .i64 0, .int .i64 0, .int .i64 0, .int .i64 0, .int .i64 0, .int .i64 0, .int .i64 0, .int .i64 0, .int .i64 0, .int .i64 0, .int .i64 0, .int .i64 0, .int .i64 0, .int .i64 0, .int .i64 0, .int .i64 0, .slice none 0 0] _ rfl KF Tryd.underlying72 rfl Tryd.sizeP6) rfl (x6_bad (by decide) rfl HE.out)
  have HS := Lib.hid hs
  go_wp2_with ((apply load_by rfl _ _ rfl _ rfl); (focus (with_reducible assumption)))
  refine (check6_yes src W2 HS.out).mono ?_
  rintro e W3 ⟨rfl, q3⟩
  replace E1 := E1.trans q3
  replace KP := KP.ext q3
  replace KA := KA.ext q3
  replace KB := KB.ext q3
  replace KR := KR.ext q3
  clear ls q3
  have ls := KB.six0
  cases hd : okS dst
  case false =>
    have hq : Q = 1 := by have := HQ2.out; rw [if_pos (by simp [hd])] at this; exact this.symm
    subst hq
    have HD := Lib.hid hd
    clear hs hd
    go_wp2_with ((apply load_by rfl _ _ rfl _ rfl); (focus (with_reducible assumption)))
    refine (check6_no dst W3 HD.out).mono ?_
    rintro e W4 ⟨rfl, q4⟩
    replace E1 := E1.trans q4
    replace KR := KR.ext q4
    have st0 := sto60 KR
    have KF := KR.row #[.int .i64 0, .int .i64 0, .int .i64 0, .int .i64 0, .int .i64 0, .int .i64 0, .int .i64 0, .int .i64 0, .int .i64 0, .int .i64 0, .int .i64 0, .int .i64 0, .int .i64 0, .int .i64 0, .int .i64 0, .int .i64 0, .int .i64 0, .int .i64 0, .slice none 0 0]
    have HE := Lib.hid (E1.row (k := w.heap.size + 3) (by omega) #[.int .i64 0, .int .i64 0, .int .i64 0, .int .i64 0, .int .i64 0, .int .i64 0, .int .i64 0, .int .i64 0, .int .i64 0, .int .i64 0, .int .i64 0, .int .i64 0, .int .i64 0, .int .i64 0, .int .i64 0, .int .i64 0, .int .i64 0, .int .i64 0, .slice none 0 0])
    unfold errv
    clear ls E1 KP KA KB KR q4
    go_wp2_with ((apply store_by rfl _ _ _ rfl _ rfl); (focus (with_reducible assumption)); (focus rfl))
    refine bodyPost_ret (results_cell2 Tryd.results41 _ _ (w.heap.size + 3) 72 #[.int .i64 0, .int .i64 0, .int .i64 0, .int .i64 0, .int .i64 0, .int .i64 0, .int .i64 0, .int .i64 0, .int .i64 0, .int .i64 0, .int .i64 0, .int .i64 0, .int .i64 0, .int .i64 0, .int .i64 0, .int .i64 0, .int .i64 0, .int .i64 0, .slice none 0 0] _ rfl KF Tryd.underlying72 rfl Tryd.sizeP6) rfl (x6_bad (by decide) rfl HE.out)
  have HD := Lib.hid hd
  have HQ3 := Lib.hid (show (if Pl.opQ k xs (val4 s d k n) ≠ 0 then Pl.opQ k xs (val4 s d k n) else if t < 2 then 7 else 0) = Q by
    have := HQ2.out
    rw [if_neg (by simp [hs, hd])] at this
    exact this)
  clear hs hd HQ2
  go_wp2_with ((apply load_by rfl _ _ rfl _ rfl); (focus (with_reducible assumption)))
  refine (check6_yes dst W3 HD.out).mono ?_
  rintro e W4 ⟨rfl, q4⟩
  replace E1 := E1.trans q4
  replace KP := KP.ext q4
  replace KA := KA.ext q4
  replace KB := KB.ext q4
  replace KR := KR.ext q4
  clear ls q4
  have ld := KP.p4
  go_wp2_with ((apply load_by rfl _ _ rfl _ rfl); (focus (with_reducible assumption)))
  refine (open4_any s d t k i a n c xs W4 HOK.out.1 hn (HR.out.ext E1) HB.out hnc HC.out).mono ?_
  have HZ := Lib.hid (fun h => op_zero (k := k) (over := val4 s d k n) HB.out h)
  generalize val4 s d k n = O at *
  obtain ⟨P, hP⟩ : ∃ P, Pl.opQ k xs O = P := ⟨_, rfl⟩
  obtain ⟨V, hV⟩ : ∃ V, Pl.opV k xs O = V := ⟨_, rfl⟩
  obtain ⟨D, hD⟩ : ∃ D, Pl.opD k xs O = D := ⟨_, rfl⟩
  unfold OpGot
  rw [hP, hV, hD]
  rw [hP] at HZ HQ3
  rw [hV, hD] at HZ
  clear hP hV hD
  rintro e W5 ⟨a3, n3, c3, rfl, o3, q5⟩
  obtain ⟨_, _, _, hv3, _, r3⟩ := o3.read
  cases hv3
  have KX := Blk.new W5 50 #[.int .i64 0, .int .i64 0, .int .i64 0, .int .i64 0, .int .i64 0, .int .i64 0, .int .i64 0, .slice none 0 0]
  have st := sto KX V a3 n3 c3
  have KY := KX.row (V.cells (.slice a3 n3 c3))
  have E3 := E1.trans q5
  have hs3 := E3.size
  have hq3 := q5.size
  have hkp := KP.lt
  have hkr := KR.lt
  have E4 := (E3.alloc (.cells #[.int .i64 0, .int .i64 0, .int .i64 0, .int .i64 0, .int .i64 0, .int .i64 0, .int .i64 0, .slice none 0 0] 50)).row hs3 (V.cells (.slice a3 n3 c3))
  have KP4 := ((KP.ext q5).alloc (.cells #[.int .i64 0, .int .i64 0, .int .i64 0, .int .i64 0, .int .i64 0, .int .i64 0, .int .i64 0, .slice none 0 0] 50)).farRow (show w.heap.size ≠ W5.heap.size by omega) (V.cells (.slice a3 n3 c3))
  have KA4 := ((KA.ext q5).alloc (.cells #[.int .i64 0, .int .i64 0, .int .i64 0, .int .i64 0, .int .i64 0, .int .i64 0, .int .i64 0, .slice none 0 0] 50)).farRow (show w.heap.size + 1 ≠ W5.heap.size by omega) (V.cells (.slice a3 n3 c3))
  have KB4 := ((KB.ext q5).alloc (.cells #[.int .i64 0, .int .i64 0, .int .i64 0, .int .i64 0, .int .i64 0, .int .i64 0, .int .i64 0, .slice none 0 0] 50)).farRow (show w.heap.size + 2 ≠ W5.heap.size by omega) (V.cells (.slice a3 n3 c3))
  have KR4 := ((KR.ext q5).alloc (.cells #[.int .i64 0, .int .i64 0, .int .i64 0, .int .i64 0, .int .i64 0, .int .i64 0, .int .i64 0, .slice none 0 0] 50)).farRow (show w.heap.size + 3 ≠ W5.heap.size by omega) (V.cells (.slice a3 n3 c3))
  have r4 := Ints.keepRow (r3.ext ((Ext.refl W5).alloc (.cells #[.int .i64 0, .int .i64 0, .int .i64 0, .int .i64 0, .int .i64 0, .int .i64 0, .int .i64 0, .slice none 0 0] 50))) W5.heap.size (V.cells (.slice a3 n3 c3)) (fun h0 p hp => by
    obtain ⟨b, o, rfl, hb, _⟩ := r3.at h0
    cases hp
    show b ≠ _
    omega)
  clear KX E3 q5 r3 E1 KP KA KB KR ld o3
  by_cases hp : P = 0
  case neg =>
    have hq : Q = P := by have := HQ3.out; rw [if_pos hp] at this; exact this.symm
    subst hq
    rw [erv_ne hp]
    have s2 := sto60 KR4
    have KF := KR4.row #[.int .i64 0, .int .i64 0, .int .i64 0, .int .i64 0, .int .i64 0, .int .i64 0, .int .i64 0, .int .i64 0, .int .i64 0, .int .i64 0, .int .i64 0, .int .i64 0, .int .i64 0, .int .i64 0, .int .i64 0, .int .i64 0, .int .i64 0, .int .i64 0, .slice none 0 0]
    have HE := Lib.hid (E4.row (k := w.heap.size + 3) (by omega) #[.int .i64 0, .int .i64 0, .int .i64 0, .int .i64 0, .int .i64 0, .int .i64 0, .int .i64 0, .int .i64 0, .int .i64 0, .int .i64 0, .int .i64 0, .int .i64 0, .int .i64 0, .int .i64 0, .int .i64 0, .int .i64 0, .int .i64 0, .int .i64 0, .slice none 0 0])
    have HN := Lib.hid hp
    unfold errv
    clear hp E4 KP4 KA4 KB4 KR4 KY r4
    go_wp2_with ((apply store_by rfl _ _ _ rfl _ rfl); (focus (with_reducible assumption)); (focus rfl))
    refine bodyPost_ret (results_cell2 Tryd.results41 _ _ (w.heap.size + 3) 72 #[.int .i64 0, .int .i64 0, .int .i64 0, .int .i64 0, .int .i64 0, .int .i64 0, .int .i64 0, .int .i64 0, .int .i64 0, .int .i64 0, .int .i64 0, .int .i64 0, .int .i64 0, .int .i64 0, .int .i64 0, .int .i64 0, .int .i64 0, .int .i64 0, .slice none 0 0] _ rfl KF Tryd.underlying72 rfl Tryd.sizeP6) rfl (x6_bad HN.out (erv_ne HN.out).symm HE.out)
  have hQ4 : (if t < 2 then 7 else 0) = Q := by have := HQ3.out; rw [if_neg (by simpa using hp)] at this; exact this
  obtain ⟨_, hVV, hDD, hok, _⟩ := HZ.out hp
  subst hp
  rw [erv_zero]
  have c2 : World.cell? _ ⟨w.heap.size, 2, none⟩ = some (.int .i64 t) := KP4.cells 2
  clear HZ HQ3
  by_cases hh : t < 2
  case pos =>
    have hq : Q = 7 := by rw [if_pos hh] at hQ4; exact hQ4.symm
    subst hq
    have s2 := sto60 KR4
    have KF := KR4.row #[.int .i64 0, .int .i64 0, .int .i64 0, .int .i64 0, .int .i64 0, .int .i64 0, .int .i64 0, .int .i64 0, .int .i64 0, .int .i64 0, .int .i64 0, .int .i64 0, .int .i64 0, .int .i64 0, .int .i64 0, .int .i64 0, .int .i64 0, .int .i64 0, .slice none 0 0]
    have HE := Lib.hid (E4.row (k := w.heap.size + 3) (by omega) #[.int .i64 0, .int .i64 0, .int .i64 0, .int .i64 0, .int .i64 0, .int .i64 0, .int .i64 0, .int .i64 0, .int .i64 0, .int .i64 0, .int .i64 0, .int .i64 0, .int .i64 0, .int .i64 0, .int .i64 0, .int .i64 0, .int .i64 0, .int .i64 0, .slice none 0 0])
    clear hQ4 E4 KP4 KA4 KB4 KR4 KY r4 hVV hDD hok
    go_wp2_with ((apply store_by rfl _ _ _ rfl _ rfl); (focus (with_reducible assumption)); (focus rfl))
    refine bodyPost_ret (results_cell2 Tryd.results41 _ _ (w.heap.size + 3) 72 #[.int .i64 0, .int .i64 0, .int .i64 0, .int .i64 0, .int .i64 0, .int .i64 0, .int .i64 0, .int .i64 0, .int .i64 0, .int .i64 0, .int .i64 0, .int .i64 0, .int .i64 0, .int .i64 0, .int .i64 0, .int .i64 0, .int .i64 0, .int .i64 0, .slice none 0 0] _ rfl KF Tryd.underlying72 rfl Tryd.sizeP6) rfl (x6_bad (by decide) rfl HE.out)
  have hq : Q = 0 := by rw [if_neg hh] at hQ4; exact hQ4.symm
  subst hq
  have htb := HOK.out.1.2.2.1.2
  have ew : IntKind.i64.wrap (t - 1) = t - 1 := IntWalk.i64_in _ (by omega)
  have lv := KY.seg
  have la := KA4.six0
  have lb := KB4.six0
  have hDl := r4.len
  have hok' : Pl.SegOk V n3 := by rw [hVV, ← hDl, hDD]; exact hok
  have hkV : V.kind = k := by rw [hVV]; exact Pl.decSeg_kind _ _
  have hBody : body6 V src dst D = x6B k xs src dst 0 := by unfold x6B; rw [if_pos rfl, hVV, hDD]
  have hID : Pl.IsB D := by rw [hDD]; exact HB.out.drop _
  have HCL := Lib.hid (close6_any V src dst (t - 1) a3 n3 c3 D _ hok' HS.out HD.out r4 hID)
  have HBO := Lib.hid hBody
  have HKV := Lib.hid hkV
  clear hQ4 hVV hDD hok r4 hDl hok' hkV hBody hID
  unfold Six.v at HCL
  go_wp2_with (first | ((apply load_by rfl _ _ rfl _ rfl); (focus (with_reducible assumption))) | ((apply store_by rfl _ _ _ rfl _ rfl); (focus (with_reducible assumption)); (focus rfl)))
  refine HCL.out.mono ?_
  rintro e W6 ⟨a5, n5, c5, rfl, o5, q6⟩
  rw [HKV.out]
  rw [HBO.out] at o5
  have KR5 := KR4.ext q6
  have E5 := E4.trans q6
  have hsz := E4.size
  have hkr4 := KR4.lt
  have s5 := sto6l KR5 ⟨src, dst, t - 1, k⟩ a5 n5 c5
  have KF := KR5.row ((⟨src, dst, t - 1, k⟩ : P6).cells (.slice a5 n5 c5))
  have HO := Lib.hid ((o5.rowOff (k := w.heap.size + 3) (fun j hj => by have := (o5.lt j hj).1; omega) ((⟨src, dst, t - 1, k⟩ : P6).cells (.slice a5 n5 c5))).mono hsz)
  have HE := Lib.hid (E5.row (k := w.heap.size + 3) (by omega) ((⟨src, dst, t - 1, k⟩ : P6).cells (.slice a5 n5 c5)))
  clear HCL o5 q6 KR5 E5 KR4 KP4 KA4 KB4 KY E4 lv la lb st c2 ew
  go_wp2_with ((apply store_by rfl _ _ _ rfl _ rfl); (focus (with_reducible assumption)); (focus rfl))
  refine bodyPost_ret (results_cell2 Tryd.results41 _ _ (w.heap.size + 3) 72 ((⟨src, dst, t - 1, k⟩ : P6).cells (.slice a5 n5 c5)) _ rfl KF Tryd.underlying72 rfl Tryd.sizeP6) rfl ⟨a5, n5, c5, rfl, HO.out, HE.out⟩
end Go.Proofs.YtkjchddidpjjmaaDoor
/- Plain laws of crossing: there and back it is as it was; of the body nothing changes but the check. Conditions: as each lemma states them. -/
namespace Go.Proofs.YtkjchddidpjjmaaDoor
open Go.RowKit
/-- A packet that crosses: what is known of it. -/
structure Crossing (p : P6) (n : Nat) (xs : List Int) (src dst : Int) : Prop where
  good : p.good = true
  small : n ≤ 320
  src : 0 ≤ src ∧ src < 4294967296
  dst : 0 ≤ dst ∧ dst < 4294967296
  hop : 2 ≤ p.hop ∧ p.hop ≤ 255
  kind : p.kind = 6 ∨ p.kind = 17
  ok : Pl.SegOk (Pl.decSeg p.kind xs) (xs.drop (Pl.segSize p.kind)).length
  size : Pl.segSize p.kind + (xs.drop (Pl.segSize p.kind)).length = n
  enc : body6 (Pl.decSeg p.kind xs) p.src p.dst (xs.drop (Pl.segSize p.kind)) = xs
theorem crossing_of {p : P6} {n : Nat} {xs : List Int} {src dst : Int} (hl : xs.length = n) (hb : Pl.IsB xs) (h : x4Q p n xs src dst = 0) : Crossing p n xs src dst := by
  unfold x4Q at h
  split at h
  · rename_i h0; exact absurd h h0
  rename_i h0
  have hf : p.fault n = 0 := Decidable.byContradiction h0
  obtain ⟨hg, hn⟩ := P6.fault_zero hf
  split at h
  · cases h
  rename_i h1
  have hw : w32 src = true ∧ w32 dst = true := Decidable.byContradiction h1
  split at h
  · rename_i h2; exact absurd h h2
  rename_i h2
  have ho : Pl.opQ p.kind xs (val6 p.src p.dst p.kind n) = 0 := Decidable.byContradiction h2
  split at h
  · cases h
  rename_i h3
  obtain ⟨hk, _, _, hok, hq⟩ := op_zero hb ho
  obtain ⟨_, _, hi, he, _⟩ := Pl.segQ_zero hb hq
  obtain ⟨_, _, ⟨_, hh⟩, _⟩ := P6.good_all hg
  have hs : Pl.segSize p.kind + (xs.drop (Pl.segSize p.kind)).length = n := by
    have := hi.1.1
    rw [List.length_drop]
    omega
  refine ⟨hg, hn, w32_yes hw.1, w32_yes hw.2, ⟨by omega, hh⟩, hk, hok, hs, ?_⟩
  have hov : ov6 (Pl.decSeg p.kind xs) p.src p.dst (xs.drop (Pl.segSize p.kind)).length = val6 p.src p.dst p.kind n := by
    unfold ov6
    rw [Pl.decSeg_kind, ← hs]
    congr 1
  unfold body6
  rw [hov]
  exact he
section
variable {p : P6} {n : Nat} {xs : List Int} {src dst : Int}
/-- What came out. -/
def Crossing.body (p : P6) (xs : List Int) (src dst : Int) : List Int := body4 (Pl.decSeg p.kind xs) src dst (xs.drop (Pl.segSize p.kind))
theorem Crossing.body_eq : x4B p xs src dst 0 = Crossing.body p xs src dst := by unfold x4B; rw [if_pos rfl]; rfl
theorem Crossing.len (h : Crossing p n xs src dst) : (Crossing.body p xs src dst).length = n := by
  unfold Crossing.body body4
  rw [Pl.segBytes_length (by rw [Pl.decSeg_kind]; exact h.kind), Pl.decSeg_kind]
  exact h.size
theorem Crossing.isB (h : Crossing p n xs src dst) (hb : Pl.IsB xs) : Pl.IsB (Crossing.body p xs src dst) :=
  Pl.segBytes_isB h.ok (Pl.segCheck_bd _ _ _) (hb.drop _)
theorem set_getD {l : List Int} {i j : Nat} {x : Int} (h : j ≠ i) : (l.set i x).getD j 0 = l.getD j 0 := by
  rw [List.getD_eq_getElem?_getD, List.getElem?_set_ne (Ne.symm h), List.getD_eq_getElem?_getD]
theorem seg_far {s : Sg} {c c' : Int} {ds : List Int} (hk : s.kind = 6 ∨ s.kind = 17) {i : Nat} (h0 : i ≠ Pl.segAt s.kind) (h1 : i ≠ Pl.segAt s.kind + 1) : (Pl.segBytes s c ds).getD i 0 = (Pl.segBytes s c' ds).getD i 0 := by
  rw [← Pl.segBytes_set s c ds hk, ← Pl.segBytes_set s c' ds hk, set_getD h1, set_getD h0, set_getD h1, set_getD h0]
theorem Crossing.far (h : Crossing p n xs src dst) {i : Nat} (h0 : i ≠ Pl.segAt p.kind) (h1 : i ≠ Pl.segAt p.kind + 1) : xs.getD i 0 = (Crossing.body p xs src dst).getD i 0 := by
  have he := h.enc
  have hk : (Pl.decSeg p.kind xs).kind = p.kind := Pl.decSeg_kind _ _
  have hf := fun c c' => seg_far (s := Pl.decSeg p.kind xs) (c := c) (c' := c') (ds := xs.drop (Pl.segSize p.kind)) (by rw [hk]; exact h.kind) (i := i) (by rw [hk]; exact h0) (by rw [hk]; exact h1)
  have he' : xs.getD i 0 = (body6 (Pl.decSeg p.kind xs) p.src p.dst (xs.drop (Pl.segSize p.kind))).getD i 0 := by rw [he]
  rw [he']
  exact hf _ _
theorem Crossing.dec (h : Crossing p n xs src dst) : Pl.decSeg p.kind (Crossing.body p xs src dst) = Pl.decSeg p.kind xs := by
  have hk : (Pl.decSeg p.kind xs).kind = p.kind := Pl.decSeg_kind _ _
  have := Pl.segBytes_dec (c := Pl.segCheck (Pl.decSeg p.kind xs) (ov4 (Pl.decSeg p.kind xs) src dst (xs.drop (Pl.segSize p.kind)).length) (xs.drop (Pl.segSize p.kind))) h.ok
  rw [hk] at this
  exact this
theorem Crossing.drop (h : Crossing p n xs src dst) : (Crossing.body p xs src dst).drop (Pl.segSize p.kind) = xs.drop (Pl.segSize p.kind) := by
  have hk : (Pl.decSeg p.kind xs).kind = p.kind := Pl.decSeg_kind _ _
  have := Pl.segBytes_drop (s := Pl.decSeg p.kind xs) (c := Pl.segCheck (Pl.decSeg p.kind xs) (ov4 (Pl.decSeg p.kind xs) src dst (xs.drop (Pl.segSize p.kind)).length) (xs.drop (Pl.segSize p.kind))) (xs := xs.drop (Pl.segSize p.kind)) (by rw [hk]; exact h.kind)
  rw [hk] at this
  exact this
theorem Crossing.ok4 (h : Crossing p n xs src dst) : Pl.Ok4 src dst (p.hop - 1) p.kind 0 := by
  obtain ⟨h0, h1⟩ := h.hop
  have hk := h.kind
  exact ⟨h.src, h.dst, ⟨by omega, by omega⟩, ⟨by omega, by omega⟩, ⟨by omega, by omega⟩⟩
theorem Crossing.back (h : Crossing p n xs src dst) : x6Q src dst (p.hop - 1) p.kind 0 n (Crossing.body p xs src dst) p.src p.dst = if p.hop < 3 then 7 else 0 := by
  have hf : fault4 src dst (p.hop - 1) p.kind 0 n = 0 := by
    have hok : ok4b src dst (p.hop - 1) p.kind 0 = true := by
      cases hb' : ok4b src dst (p.hop - 1) p.kind 0
      · exact absurd h.ok4 (ok4b_no hb')
      · rfl
    unfold fault4
    rw [hok, if_pos rfl, if_pos h.small]
  obtain ⟨hs, hd, _, _⟩ := P6.good_all h.good
  have hq : Pl.opQ p.kind (Crossing.body p xs src dst) (val4 src dst p.kind n) = 0 := by
    rw [(Pl.op_known h.kind).1]
    have hk : (Pl.decSeg p.kind xs).kind = p.kind := Pl.decSeg_kind _ _
    have hov : ov4 (Pl.decSeg p.kind xs) src dst (xs.drop (Pl.segSize p.kind)).length = val4 src dst p.kind n := by
      unfold ov4
      rw [hk, ← h.size]
      congr 1
    have := Pl.segQ_enc (over := ov4 (Pl.decSeg p.kind xs) src dst (xs.drop (Pl.segSize p.kind)).length) h.ok val4_word
    rw [hk, hov] at this
    unfold Crossing.body body4
    rw [hov]
    exact this
  unfold x6Q
  rw [if_neg (by rw [hf]; simp), if_neg (by simp [hs, hd]), if_neg (by rw [hq]; simp)]
  by_cases h3 : p.hop < 3
  · rw [if_pos h3, if_pos (by omega)]
  · rw [if_neg h3, if_neg (by omega)]
theorem Crossing.same (h : Crossing p n xs src dst) : x6B p.kind (Crossing.body p xs src dst) p.src p.dst 0 = xs ∧ x6p (p.hop - 1) p.kind p.src p.dst 0 = ⟨p.src, p.dst, p.hop - 1 - 1, p.kind⟩ := by
  constructor
  · unfold x6B
    rw [if_pos rfl, h.dec, h.drop]
    exact h.enc
  · unfold x6p
    rw [if_pos rfl]
end
end Go.Proofs.YtkjchddidpjjmaaDoor
/- Two addresses, compared. Conditions: as each lemma states them. -/
namespace Go.Proofs.YtkjchddidpjjmaaDoor
open Go.RowKit
theorem Tryd.sizeInt : ∀ w : World, (sizeOf 3).run Tryd.prog w = .ok 1 w := fun w => by kernel_rfl
/-- As a test of the numbers. -/
def sixEq (s t : Six) : Bool := (List.range 8).all fun i => s.l.getD i 0 == t.l.getD i 0
theorem sixEq_self (s : Six) : sixEq s s = true := by unfold sixEq; simp
theorem sixEq_iff {s t : Six} : sixEq s t = true ↔ s = t := by
  constructor
  · intro h
    obtain ⟨a0, a1, a2, a3, a4, a5, a6, a7⟩ := s
    obtain ⟨b0, b1, b2, b3, b4, b5, b6, b7⟩ := t
    unfold sixEq at h
    simp [List.range, List.range.loop, Six.l] at h
    obtain ⟨rfl, rfl, rfl, rfl, rfl, rfl, rfl, rfl⟩ := h
    rfl
  · rintro rfl
    exact sixEq_self s
theorem run_sixEq (s t : Six) (d : Nat) (w : World) : (Op.equalIn (d + 2) 23 (.agg s.cells) (.agg t.cells)).run Tryd.prog w = .ok (sixEq s t) w := by
  unfold sixEq
  rw [List.range_eq_range', Op.equalIn]
  simp only [Sem.run_bind, run_underlying Tryd.underlying23, Result.andThen_ok, Tryd.sizeInt, Std.Legacy.Range.forIn_eq_forIn_range', Std.Legacy.Range.size, Nat.sub_zero, Nat.add_sub_cancel, Nat.div_one]
  have hl : ∀ i ∈ List.range' 0 8 1, i < 8 := fun i hi => by simpa using (List.mem_range'_1.1 hi).2
  generalize List.range' 0 8 1 = l at hl ⊢
  induction l with
  | nil => simp
  | cons i l ih =>
    have hi : i < 8 := hl i (by simp)
    have px : (part 3 s.cells (i * 1)).run Tryd.prog w = .ok (.int .i64 (s.l.getD i 0)) w := by
      simp [part, isAgg, run_underlying Tryd.underlying3, s.cells_at i hi]
    have py : (part 3 t.cells (i * 1)).run Tryd.prog w = .ok (.int .i64 (t.l.getD i 0)) w := by
      simp [part, isAgg, run_underlying Tryd.underlying3, t.cells_at i hi]
    have pe : (Op.equalIn (d + 1) 3 (.int .i64 (s.l.getD i 0)) (.int .i64 (t.l.getD i 0))).run Tryd.prog w = .ok (s.l.getD i 0 == t.l.getD i 0) w :=
      run_equalIn_int w d 3 .i64 .i64 _ _ Tryd.underlying3
    simp only [List.forIn_cons, Sem.run_bind, px, py, pe, Result.andThen_ok, List.all_cons]
    cases hb : (s.l.getD i 0 == t.l.getD i 0)
    · simp
    · simp only [Bool.not_true, Bool.false_eq_true, if_false, Sem.run_pure, Result.andThen_ok, Bool.true_and]
      exact ih fun j hj => hl j (by simp [hj])
/-- As the walk meets it. -/
theorem six_same (s : Six) (w : World) : (Op.equalIn 10000 23 (.agg s.cells) (.agg s.cells)).run Tryd.prog w = .ok true w := by
  rw [run_sixEq s s 9998 w, sixEq_self]
end Go.Proofs.YtkjchddidpjjmaaDoor
/- The contracts of gangplanksame.Pack6s (of two that are the same) and Pick. Conditions: as each theorem states them. -/
namespace Go.Proofs.YtkjchddidpjjmaaDoor
open Go.RowKit
set_option maxRecDepth 100000 in
set_option maxHeartbeats 1000000 in
theorem pack6s_yes (p : P6) (a a' : Option Addr) (n c n' c' : Nat) (xs : List Int) (w : World) (h1 : Ints .u8 w a n xs) (h2 : Ints .u8 w a' n' xs) :
    Calls Tryd.prog 42 #[p.v (.slice a n c), p.v (.slice a' n' c')] w fun e w' => e = .returned (.bool true) ∧ Ext w w' := by
  have K1 := (Blk.new w 72 (p.cells (.slice a n c))).alloc (.cells (p.cells (.slice a' n' c')) 72)
  have K2 := Blk.new (w.alloc (.cells (p.cells (.slice a n c)) 72)) 72 (p.cells (.slice a' n' c'))
  simp only [World.size_alloc] at K2
  have E2 := ((Ext.refl w).alloc (.cells (p.cells (.slice a n c)) 72)).alloc (.cells (p.cells (.slice a' n' c')) 72)
  have k1 := conv_str (c := c) (h1.ext E2)
  have k2 := conv_str (c := c') (h2.ext E2)
  have l1 := K1.p6src
  have l2 := K2.p6src
  have l3 := K1.p6dst
  have l4 := K2.p6dst
  obtain ⟨m0, m1, m2⟩ := K1.p6nums
  obtain ⟨m3, m4, m5⟩ := K2.p6nums
  have HE := Lib.hid E2
  have q1 := fun W => six_same p.src W
  have q2 := fun W => six_same p.dst W
  generalize strOfNums xs = z at k1 k2
  clear h1 h2 E2
  go_enter Tryd.func42, Tryd.ntmps42
  go_wp2_with ((apply load_by rfl _ _ rfl _ rfl); (focus (with_reducible assumption)))
  go_ret
  exact ⟨rfl, HE.out⟩
end Go.Proofs.YtkjchddidpjjmaaDoor
namespace Go.Proofs.YtkjchddidpjjmaaDoor.crossBack
open Go.ChangeShapes Go.WideShapes Go.ChangeAt Go.RowKit

theorem to4_ok (p : P6) (a : Option Addr) (n c : Nat) (xs : List Int) (src dst : Int) (w : World) (hr : Ints .u8 w a n xs) (hb : Pl.IsB xs) (hnc : n ≤ c) (hc : a = none → c = 0) (hq : x4Q p n xs src dst = 0) :
    Calls Tryd.prog 38 #[p.v (.slice a n c), .int .i64 src, .int .i64 dst] w fun e w' => ∃ a' c', e = .returned (.tuple #[.agg (c4 src dst (p.hop - 1) p.kind 0 (.slice a' n c')), .nilIface]) ∧ Own w' w.heap.size (.slice a' n c') (Crossing.body p xs src dst) ∧ Ext w w' := by
  refine (to4_any p a n c xs src dst w hr hb hnc hc).mono ?_
  rintro e w' ⟨a', n', c', rfl, o, q⟩
  have hX := crossing_of hr.len hb hq
  rw [hq, Crossing.body_eq] at o
  have hn : n = n' := hX.len.symm.trans o.len
  subst hn
  refine ⟨a', c', ?_, o, q⟩
  rw [hq]
  rfl
theorem to4_err (p : P6) (a : Option Addr) (n c : Nat) (xs : List Int) (src dst : Int) (w : World) (hr : Ints .u8 w a n xs) (hb : Pl.IsB xs) (hnc : n ≤ c) (hc : a = none → c = 0) (hq : x4Q p n xs src dst ≠ 0) :
    Calls Tryd.prog 38 #[p.v (.slice a n c), .int .i64 src, .int .i64 dst] w fun e w' => ∃ x0 x1 x2 x3 a' n' c', e = .returned (.tuple #[.agg (c4 x0 x1 x2 x3 0 (.slice a' n' c')), errv (x4Q p n xs src dst)]) ∧ Ext w w' := by
  refine (to4_any p a n c xs src dst w hr hb hnc hc).mono ?_
  rintro e w' ⟨a', n', c', rfl, _, q⟩
  exact ⟨_, _, _, _, a', n', c', by rw [erv_ne hq]; rfl, q⟩
theorem at16 {k : Int} (h : (k == 6) = true) : Pl.segAt k = 16 := by
  have h' : k = 6 := by simpa using h
  unfold Pl.segAt
  rw [if_pos h']
theorem at6 {k : Int} (h : (k == 6) = false) : Pl.segAt k = 6 := by
  have h' : ¬ k = 6 := by simpa using h
  unfold Pl.segAt
  rw [if_neg h']
/-- The closed fact's packet. -/
def pF : P6 := ⟨⟨1, 0, 0, 0, 0, 0, 0, 0⟩, ⟨2, 0, 0, 0, 0, 0, 0, 0⟩, 9, 17⟩
def sF : Sg := ⟨17, 1, 2, 0, 0, 0, 0⟩
def oF : Int := val6 pF.src pF.dst 17 8
def bF : List Int := Pl.encB sF oF []
theorem fO : ok6 pF.src pF.dst 17 8 = true := by decide +kernel
theorem fE : Pl.encF sF oF ([] : List Int).length = 0 := by decide +kernel
theorem fL : bF.length = 8 := by decide +kernel
theorem fB : Pl.IsB bF := Pl.IsB.of (by decide +kernel)
theorem fQ : x4Q pF 8 bF 5 6 = 0 := by decide +kernel
theorem over_f (w : World) : Calls Tryd.prog 43 #[pF.src.v, pF.dst.v, .int .i64 17, .int .i64 8] w fun e w' => e = .returned (.tuple #[.int .i64 oF, .nilIface]) ∧ Ext w w' := by
  have := over6_any pF.src pF.dst 17 8 w
  rw [fO] at this
  exact this
theorem enc_f (w : World) : Calls Tryd.prog 32 #[sF.v (.slice none 0 0), .int .i64 oF] w fun e w' => ∃ a c, e = .returned (.tuple #[.slice a 8 c, .nilIface]) ∧ 8 ≤ c ∧ (a = none → c = 0) ∧ Ints .u8 w' a 8 bF ∧ Ext w w' := by
  refine (sEncode_any sF none 0 0 [] oF w Ints.nil Pl.IsB.nil).mono ?_
  rintro e w' ⟨v, rfl, o, q⟩
  rw [fE]
  obtain ⟨a, n, c, rfl, hnc, r, hc⟩ := o.readn
  obtain rfl : 8 = n := fL.symm.trans r.len
  exact ⟨a, c, rfl, hnc, hc, r, q⟩
theorem to4_f (a : Option Addr) (c : Nat) (w : World) (hr : Ints .u8 w a 8 bF) (hnc : 8 ≤ c) (hc : a = none → c = 0) :
    Calls Tryd.prog 38 #[pF.v (.slice a 8 c), .int .i64 5, .int .i64 6] w fun e w' => ∃ a' c', e = .returned (.tuple #[.agg (c4 5 6 8 17 0 (.slice a' 8 c')), .nilIface]) ∧ Ext w w' := by
  refine (to4_ok pF a 8 c bF 5 6 w hr fB hnc hc fQ).mono ?_
  rintro e w' ⟨a', c', rfl, _, q⟩
  exact ⟨a', c', rfl, q⟩

set_option maxRecDepth 100000 in
set_option maxHeartbeats 4000000 in
theorem walk (p : P6) (a0 : Option Addr) (n0 c0 : Nat) (x0 : List Int) (x1 x2 : Int) (w : World) (hg : Handle w) (w0 : IsP6 w p a0 n0 c0 x0) (_ : IsInt x1) (_ : IsInt x2) :
    Calls Tryd.prog 8 #[p.v (.slice a0 n0 c0), .int .i64 x1, .int .i64 x2] w fun e w' => e = .returned (.bool true) ∧ Below w.heap.size w w' := by
  obtain ⟨⟨hb0, hB0, hn0, _⟩, hc0, _⟩ := w0
  have HG := Lib.hid hg
  have H0 := Lib.hid hb0
  have HB0 := Lib.hid hB0
  have HC0 := Lib.hid hc0
  have KP := Blk.new w 72 (p.cells (.slice a0 n0 c0))
  have E0 : Ext w _ := (Ext.refl w).alloc (.cells (p.cells (.slice a0 n0 c0)) 72)
  have HOF := Lib.hid over_f
  have HEF := Lib.hid enc_f
  have HTF := Lib.hid to4_f
  generalize oF = O at *
  unfold pF Six.v at HOF
  unfold pF at HTF
  unfold sF at HEF
  generalize bF = BF at *
  clear hg hb0 hB0 hc0
  go_enter Tryd.func8, Tryd.ntmps8
  go_upto_region 1 with (fail)
  refine at_worldE (fun W => Ext w W ∧ Blk W w.heap.size 72 (p.cells (.slice a0 n0 c0))) ⟨E0, KP⟩ ?_
  clear E0 KP
  rintro W1 ⟨E1, KP⟩
  go_wp2_with fail
  refine (HOF.out W1).mono ?_
  rintro e W2 ⟨rfl, q2⟩
  replace E1 := E1.trans q2
  replace KP := KP.ext q2
  clear q2
  go_wp2_with fail
  refine (HEF.out W2).mono ?_
  rintro e W3 ⟨a3, c3, rfl, hn3, hc3, r3, q3⟩
  replace E1 := E1.trans q3
  replace KP := KP.ext q3
  clear q3
  have HC3 := Lib.hid hc3
  clear hc3
  go_wp2_with fail
  refine (HTF.out a3 c3 W3 r3 hn3 HC3.out).mono ?_
  rintro e W4 ⟨a4, c4', rfl, q4⟩
  replace E1 := E1.trans q4
  replace KP := KP.ext q4
  clear q4 r3
  have KX := Blk.new W4 74 (c4 0 0 0 0 0 (.slice none 0 0))
  have st := sto4 KX 5 6 8 17 0 a4 8 c4'
  have KX2 := KX.row (c4 5 6 8 17 0 (.slice a4 8 c4'))
  have hk := KP.lt
  have E2 := (E1.alloc (.cells (c4 0 0 0 0 0 (.slice none 0 0)) 74)).row E1.size (c4 5 6 8 17 0 (.slice a4 8 c4'))
  have KP2 := (KP.alloc (.cells (c4 0 0 0 0 0 (.slice none 0 0)) 74)).farRow (show w.heap.size ≠ W4.heap.size by omega) (c4 5 6 8 17 0 (.slice a4 8 c4'))
  clear KX E1 KP
  have ld := KP2.p6
  have f0 : World.cell? _ ⟨W4.heap.size, 0, none⟩ = some (.int .i64 5) := KX2.cells 0
  have f1 : World.cell? _ ⟨W4.heap.size, 1, none⟩ = some (.int .i64 6) := KX2.cells 1
  have f2 : World.cell? _ ⟨W4.heap.size, 2, none⟩ = some (.int .i64 8) := KX2.cells 2
  have f5 : World.cell? _ ⟨W4.heap.size, 5, none⟩ = some (.slice a4 8 c4') := KX2.cells 5
  go_wp2_with (first | ((apply load_by rfl _ _ rfl _ rfl); (focus (with_reducible assumption))) | ((apply store_by rfl _ _ _ rfl _ rfl); (focus (with_reducible assumption)); (focus rfl)))
  refine at_world (fun W => Ext w W ∧ Blk W w.heap.size 72 (p.cells (.slice a0 n0 c0))) ⟨E2, KP2⟩ ?_
  clear st ld f0 f1 f2 f5 E2 KP2 KX2
  rintro W5 ⟨E5, KP⟩
  by_cases hq : x4Q p n0 x0 x1 x2 = 0
  case neg =>
    refine (to4_err p a0 n0 c0 x0 x1 x2 W5 (H0.out.ext E5) HB0.out hn0 HC0.out hq).mono ?_
    rintro e W6 ⟨z0, z1, z2, z3, a6, n6, c6, rfl, q6⟩
    have E6 := E5.trans q6
    have KX := Blk.new W6 74 (c4 0 0 0 0 0 (.slice none 0 0))
    have st := sto4 KX z0 z1 z2 z3 0 a6 n6 c6
    have HE := Lib.hid ((E6.alloc (.cells (c4 0 0 0 0 0 (.slice none 0 0)) 74)).row E6.size (c4 z0 z1 z2 z3 0 (.slice a6 n6 c6)))
    unfold errv
    clear hq E5 KP q6 E6 KX
    go_wp2_with ((apply store_by rfl _ _ _ rfl _ rfl); (focus (with_reducible assumption)); (focus rfl))
    go_ret
    exact ⟨rfl, HE.out⟩
  have hX := crossing_of H0.out.len HB0.out hq
  have HX := Lib.hid hX
  refine (to4_ok p a0 n0 c0 x0 x1 x2 W5 (H0.out.ext E5) HB0.out hn0 HC0.out hq).mono ?_
  obtain ⟨B, hB⟩ : ∃ B, Crossing.body p x0 x1 x2 = B := ⟨_, rfl⟩
  rw [hB]
  have HBL := Lib.hid (show B.length = n0 from hB ▸ hX.len)
  have HBB := Lib.hid (show Pl.IsB B from hB ▸ hX.isB HB0.out)
  have HFAR := Lib.hid (fun (i : Nat) (h0 : i ≠ Pl.segAt p.kind) (h1 : i ≠ Pl.segAt p.kind + 1) => (show x0.getD i 0 = B.getD i 0 from hB ▸ hX.far h0 h1))
  have HBK := Lib.hid (show x6Q x1 x2 (p.hop - 1) p.kind 0 n0 B p.src p.dst = if p.hop < 3 then 7 else 0 from hB ▸ hX.back)
  have HSM := Lib.hid (show x6B p.kind B p.src p.dst 0 = x0 ∧ x6p (p.hop - 1) p.kind p.src p.dst 0 = ⟨p.src, p.dst, p.hop - 1 - 1, p.kind⟩ from hB ▸ hX.same)
  have HOK := Lib.hid hX.ok4
  obtain ⟨hop0, hop1⟩ := hX.hop
  have hsm := hX.small
  have hkd : p.kind = 6 ∨ p.kind = 17 := hX.kind
  clear hB hX hq
  rintro e W6 ⟨a6, c6, rfl, o6, q6⟩
  have E6 := E5.trans q6
  replace KP := KP.ext q6
  have KX := Blk.new W6 74 (c4 0 0 0 0 0 (.slice none 0 0))
  have st := sto4 KX x1 x2 (p.hop - 1) p.kind 0 a6 n0 c6
  have KX2 := KX.row (c4 x1 x2 (p.hop - 1) p.kind 0 (.slice a6 n0 c6))
  have hk6 := KP.lt
  have E7 := (E6.alloc (.cells (c4 0 0 0 0 0 (.slice none 0 0)) 74)).row E6.size (c4 x1 x2 (p.hop - 1) p.kind 0 (.slice a6 n0 c6))
  have KP7 := (KP.alloc (.cells (c4 0 0 0 0 0 (.slice none 0 0)) 74)).farRow (show w.heap.size ≠ W6.heap.size by omega) (c4 x1 x2 (p.hop - 1) p.kind 0 (.slice a6 n0 c6))
  obtain ⟨_, _, _, hv6, hnc6, r6, hc6⟩ := o6.readn
  cases hv6
  have HC6 := Lib.hid hc6
  clear hc6
  have r7 := Ints.keepRow (r6.ext ((Ext.refl W6).alloc (.cells (c4 0 0 0 0 0 (.slice none 0 0)) 74))) W6.heap.size (c4 x1 x2 (p.hop - 1) p.kind 0 (.slice a6 n0 c6)) (fun h0 p hp => by
    obtain ⟨b, o, rfl, hb, _⟩ := r6.at h0
    cases hp
    show b ≠ _
    omega)
  clear E5 E6 KP KX o6 r6 q6
  have ew : IntKind.i64.wrap (p.hop - 1) = p.hop - 1 := IntWalk.i64_in _ (by omega)
  obtain ⟨t16, t17, t18⟩ := KP7.p6nums
  have f2 : World.cell? _ ⟨W6.heap.size, 2, none⟩ = some (.int .i64 (p.hop - 1)) := KX2.cells 2
  have f3 : World.cell? _ ⟨W6.heap.size, 3, none⟩ = some (.int .i64 p.kind) := KX2.cells 3
  have f5 : World.cell? _ ⟨W6.heap.size, 5, none⟩ = some (.slice a6 n0 c6) := KX2.cells 5
  have hkb : (p.kind == 6) = true ∨ (p.kind == 6) = false := by cases p.kind == 6 <;> simp
  clear hkd
  go_upto_if 108 with (((apply store_by rfl _ _ _ rfl _ rfl); (focus (with_reducible assumption)); (focus rfl)))
  refine at_worldE (fun W => Ext w W ∧ Blk W w.heap.size 72 (p.cells (.slice a0 n0 c0)) ∧ Blk W W6.heap.size 74 (c4 x1 x2 (p.hop - 1) p.kind 0 (.slice a6 n0 c6)) ∧ Ints .u8 W a6 n0 B) ⟨E7, KP7, KX2, r7⟩ ?_
  clear E7 KP7 KX2 r7 st f2 f3 f5 t16 t17 t18
  rintro W7 ⟨E7, KP, KX, r7⟩
  go_cut [15] (fun v wc => W7 = wc ∧ v = .int .i64 (Pl.segAt p.kind : Nat))
  case first =>
    rcases hkb with hkb | hkb
    · have HR := Lib.hid (at16 hkb)
      go_wp2_with fail
      go_meet
      exact ⟨rfl, by rw [HR.out]; rfl⟩
    · have HR := Lib.hid (at6 hkb)
      go_wp2_with fail
      go_meet
      exact ⟨rfl, by rw [HR.out]; rfl⟩
  obtain ⟨rfl, rfl⟩ := hcut
  have hgq : w.heap.size < W6.heap.size := hk6
  generalize W6.heap.size = gq at *
  obtain ⟨J, hJ⟩ : ∃ J, Pl.segAt p.kind = J := ⟨_, rfl⟩
  have hJ20 : J ≤ 20 := by rw [← hJ]; unfold Pl.segAt; split <;> omega
  rw [hJ] at HFAR ⊢
  clear hkb hJ ew
  go_wp2_with fail
  go_loopw [16] (fun i wr => ∃ k : Nat, k ≤ n0 ∧ i = .int .i64 k ∧ Ext w wr ∧ Blk wr w.heap.size 72 (p.cells (.slice a0 n0 c0)) ∧ Blk wr gq 74 (c4 x1 x2 (p.hop - 1) p.kind 0 (.slice a6 n0 c6)) ∧ Ints .u8 wr a6 n0 B) (fun i _ => n0 - (intOf i).toNat)
  case atStart => exact ⟨0, Nat.zero_le _, rfl, E7, KP, KX, r7⟩
  case round =>
    obtain ⟨k, hk', rfl, Er, KPr, KXr, rr⟩ := hrel
    clear E7 KP KX r7
    have c18 : wr.cell? ⟨w.heap.size, 18, none⟩ = some (.slice a0 n0 c0) := KPr.p6nums.2.2
    have f5 : wr.cell? ⟨gq, 5, none⟩ = some (.slice a6 n0 c6) := KXr.cells 5
    by_cases hlt : k < n0
    case neg =>
      have hlt' : ¬ (k : Int) < (n0 : Int) := by omega
      have ld := KXr.p4
      clear f5
      go_wp2_with ((apply load_by rfl _ _ rfl _ rfl); (focus (with_reducible assumption)))
      refine (encode4_ok x1 x2 (p.hop - 1) p.kind 0 a6 n0 c6 B wr HOK.out hsm rr).mono ?_
      rintro e W8 ⟨v8, rfl, o8, b8⟩
      obtain ⟨a8, n8, c8, rfl, hnc8, r8⟩ := o8.read
      have q8 : Ext wr W8 := b8
      replace Er := Er.trans q8
      replace KPr := KPr.ext q8
      replace KXr := KXr.ext q8
      replace rr := rr.ext q8
      clear ld b8 q8 o8 c18
      go_wp2_with fail
      refine (decode4_enc a8 n8 c8 x1 x2 (p.hop - 1) p.kind 0 B W8 r8 HOK.out HBB.out (by rw [HBL.out]; exact hsm) hnc8).mono ?_
      rintro e W9 ⟨a9, n9, c9, rfl, o9, b9⟩
      have q9 : Ext W8 W9 := b9
      replace Er := Er.trans q9
      replace KPr := KPr.ext q9
      replace KXr := KXr.ext q9
      replace rr := rr.ext q9
      obtain ⟨_, _, _, hv9, _, r9⟩ := o9.read
      cases hv9
      have KZ := Blk.new W9 74 (c4 0 0 0 0 0 (.slice none 0 0))
      have st := sto4 KZ x1 x2 (p.hop - 1) p.kind 0 a9 n9 c9
      have KZ2 := KZ.row (c4 x1 x2 (p.hop - 1) p.kind 0 (.slice a9 n9 c9))
      have hx9 := KXr.lt
      have hp9 := KPr.lt
      have E10 := (Er.alloc (.cells (c4 0 0 0 0 0 (.slice none 0 0)) 74)).row Er.size (c4 x1 x2 (p.hop - 1) p.kind 0 (.slice a9 n9 c9))
      have KP10 := (KPr.alloc (.cells (c4 0 0 0 0 0 (.slice none 0 0)) 74)).farRow (show w.heap.size ≠ W9.heap.size by omega) (c4 x1 x2 (p.hop - 1) p.kind 0 (.slice a9 n9 c9))
      have KX10 := (KXr.alloc (.cells (c4 0 0 0 0 0 (.slice none 0 0)) 74)).farRow (show gq ≠ W9.heap.size by omega) (c4 x1 x2 (p.hop - 1) p.kind 0 (.slice a9 n9 c9))
      have r9' := Ints.keepRow (r9.ext ((Ext.refl W9).alloc (.cells (c4 0 0 0 0 0 (.slice none 0 0)) 74))) W9.heap.size (c4 x1 x2 (p.hop - 1) p.kind 0 (.slice a9 n9 c9)) (fun h0 p hp => by
        obtain ⟨b, o, rfl, hb, _⟩ := r9.at h0
        cases hp
        show b ≠ _
        omega)
      have rr' := Ints.keepRow (rr.ext ((Ext.refl W9).alloc (.cells (c4 0 0 0 0 0 (.slice none 0 0)) 74))) W9.heap.size (c4 x1 x2 (p.hop - 1) p.kind 0 (.slice a9 n9 c9)) (fun h0 p hp => by
        obtain ⟨b, o, rfl, hb, _⟩ := rr.at h0
        cases hp
        show b ≠ _
        omega)
      clear Er KPr KXr rr r9 o9 b9 q9 KZ r8
      have l1 := KZ2.p4
      have l2 := KX10.p4
      unfold pk4
      go_wp2_with (first | ((apply load_by rfl _ _ rfl _ rfl); (focus (with_reducible assumption))) | ((apply store_by rfl _ _ _ rfl _ rfl); (focus (with_reducible assumption)); (focus rfl)))
      refine at_world (fun W => Ext w W ∧ Blk W w.heap.size 72 (p.cells (.slice a0 n0 c0)) ∧ Blk W gq 74 (c4 x1 x2 (p.hop - 1) p.kind 0 (.slice a6 n0 c6)) ∧ Ints .u8 W a9 n9 B ∧ Ints .u8 W a6 n0 B) ⟨E10, KP10, KX10, r9', rr'⟩ ?_
      clear st l1 l2 E10 KP10 KX10 r9' rr' KZ2
      rintro W10 ⟨E10, KP, KX, r9, rr⟩
      refine (pack4s_yes x1 x2 (p.hop - 1) p.kind 0 a9 a6 n9 c9 n0 c6 B W10 r9 rr).mono ?_
      rintro e W11 ⟨rfl, b11⟩
      have q11 : Ext W10 W11 := b11
      replace E10 := E10.trans q11
      replace KP := KP.ext q11
      replace KX := KX.ext q11
      replace rr := rr.ext q11
      clear b11 q11 r9
      have l1 := KX.p4
      have l2 := KP.p6src
      have l3 := KP.p6dst
      go_wp2_with ((apply load_by rfl _ _ rfl _ rfl); (focus (with_reducible assumption)))
      refine (to6_any x1 x2 (p.hop - 1) p.kind 0 a6 n0 c6 B p.src p.dst W11 rr HBB.out hnc6 HC6.out).mono ?_
      unfold X6Got
      rw [HBK.out]
      by_cases h3 : p.hop < 3
      · rw [if_pos h3]
        generalize x6p (p.hop - 1) p.kind p.src p.dst 7 = PP
        rintro e W12 ⟨a12, n12, c12, rfl, _, q12⟩
        have E12 := E10.trans q12
        replace KP := KP.ext q12
        have KV := Blk.new W12 72 #[.int .i64 0, .int .i64 0, .int .i64 0, .int .i64 0, .int .i64 0, .int .i64 0, .int .i64 0, .int .i64 0, .int .i64 0, .int .i64 0, .int .i64 0, .int .i64 0, .int .i64 0, .int .i64 0, .int .i64 0, .int .i64 0, .int .i64 0, .int .i64 0, .slice none 0 0]
        have st := sto6l KV PP a12 n12 c12
        have KV2 := KV.row ((PP).cells (.slice a12 n12 c12))
        have hp12 := KP.lt
        have E13 := (E12.alloc (.cells #[.int .i64 0, .int .i64 0, .int .i64 0, .int .i64 0, .int .i64 0, .int .i64 0, .int .i64 0, .int .i64 0, .int .i64 0, .int .i64 0, .int .i64 0, .int .i64 0, .int .i64 0, .int .i64 0, .int .i64 0, .int .i64 0, .int .i64 0, .int .i64 0, .slice none 0 0] 72)).row E12.size ((PP).cells (.slice a12 n12 c12))
        have KP13 := (KP.alloc (.cells #[.int .i64 0, .int .i64 0, .int .i64 0, .int .i64 0, .int .i64 0, .int .i64 0, .int .i64 0, .int .i64 0, .int .i64 0, .int .i64 0, .int .i64 0, .int .i64 0, .int .i64 0, .int .i64 0, .int .i64 0, .int .i64 0, .int .i64 0, .int .i64 0, .slice none 0 0] 72)).farRow (show w.heap.size ≠ W12.heap.size by omega) ((PP).cells (.slice a12 n12 c12))
        have c16 := KP13.p6nums.1
        have HE := Lib.hid E13
        clear l1 l2 l3 E10 KP KX rr q12 KV E12 KV2 E13 KP13
        go_wp2_with ((apply store_by rfl _ _ _ rfl _ rfl); (focus (with_reducible assumption)); (focus rfl))
        refine (err_same 7 _ (HG.out.below HE.out)).mono ?_
        rintro e W14 ⟨rfl, b14⟩
        have E14 : Ext w W14 := HE.out.trans b14
        go_wp2_with fail
        go_ret
        exact ⟨rfl, E14⟩
      · rw [if_neg h3, HSM.out.1, HSM.out.2, erv_zero]
        rintro e W12 ⟨a12, n12, c12, rfl, o12, q12⟩
        have E12 := E10.trans q12
        replace KP := KP.ext q12
        have KV := Blk.new W12 72 #[.int .i64 0, .int .i64 0, .int .i64 0, .int .i64 0, .int .i64 0, .int .i64 0, .int .i64 0, .int .i64 0, .int .i64 0, .int .i64 0, .int .i64 0, .int .i64 0, .int .i64 0, .int .i64 0, .int .i64 0, .int .i64 0, .int .i64 0, .int .i64 0, .slice none 0 0]
        have st := sto6l KV (⟨p.src, p.dst, p.hop - 1 - 1, p.kind⟩ : P6) a12 n12 c12
        have KV2 := KV.row (((⟨p.src, p.dst, p.hop - 1 - 1, p.kind⟩ : P6)).cells (.slice a12 n12 c12))
        have hp12 := KP.lt
        have E13 := (E12.alloc (.cells #[.int .i64 0, .int .i64 0, .int .i64 0, .int .i64 0, .int .i64 0, .int .i64 0, .int .i64 0, .int .i64 0, .int .i64 0, .int .i64 0, .int .i64 0, .int .i64 0, .int .i64 0, .int .i64 0, .int .i64 0, .int .i64 0, .int .i64 0, .int .i64 0, .slice none 0 0] 72)).row E12.size (((⟨p.src, p.dst, p.hop - 1 - 1, p.kind⟩ : P6)).cells (.slice a12 n12 c12))
        have KP13 := (KP.alloc (.cells #[.int .i64 0, .int .i64 0, .int .i64 0, .int .i64 0, .int .i64 0, .int .i64 0, .int .i64 0, .int .i64 0, .int .i64 0, .int .i64 0, .int .i64 0, .int .i64 0, .int .i64 0, .int .i64 0, .int .i64 0, .int .i64 0, .int .i64 0, .int .i64 0, .slice none 0 0] 72)).farRow (show w.heap.size ≠ W12.heap.size by omega) (((⟨p.src, p.dst, p.hop - 1 - 1, p.kind⟩ : P6)).cells (.slice a12 n12 c12))
        obtain ⟨_, _, _, hv12, _, r12⟩ := o12.read
        cases hv12
        have r13 := Ints.keepRow (r12.ext ((Ext.refl W12).alloc (.cells #[.int .i64 0, .int .i64 0, .int .i64 0, .int .i64 0, .int .i64 0, .int .i64 0, .int .i64 0, .int .i64 0, .int .i64 0, .int .i64 0, .int .i64 0, .int .i64 0, .int .i64 0, .int .i64 0, .int .i64 0, .int .i64 0, .int .i64 0, .int .i64 0, .slice none 0 0] 72))) W12.heap.size (((⟨p.src, p.dst, p.hop - 1 - 1, p.kind⟩ : P6)).cells (.slice a12 n12 c12)) (fun h0 p hp => by
          obtain ⟨b, o, rfl, hb, _⟩ := r12.at h0
          cases hp
          show b ≠ _
          omega)
        clear l1 l2 l3
        have k1 := conv_str (c := c12) r13
        have k2 := conv_str (c := c0) (H0.out.ext E13)
        have l1 := KP13.p6src
        have l2 := KV2.p6src
        have l3 := KP13.p6dst
        have l4 := KV2.p6dst
        obtain ⟨m0, m1, m2⟩ := KP13.p6nums
        obtain ⟨m3, m4, m5⟩ := KV2.p6nums
        have q1 := fun W => six_same p.src W
        have q2 := fun W => six_same p.dst W
        have ew : IntKind.i64.wrap (p.hop - 2) = p.hop - 1 - 1 := by rw [show p.hop - 1 - 1 = p.hop - 2 by omega]; exact IntWalk.i64_in _ (by omega)
        have HE := Lib.hid E13
        generalize strOfNums x0 = z at k1 k2
        clear E10 KP KX rr q12 KV E12 KV2 E13 KP13 o12 r12 r13
        go_wp2_with (first | ((apply load_by rfl _ _ rfl _ rfl); (focus (with_reducible assumption))) | ((apply store_by rfl _ _ _ rfl _ rfl); (focus (with_reducible assumption)); (focus rfl)))
        go_ret
        exact ⟨rfl, HE.out⟩
    have hlt' : (k : Int) < (n0 : Int) := by omega
    have wJ : IntKind.i64.wrap ((J : Int) + 1) = (J : Int) + 1 := IntWalk.i64_in _ (by omega)
    have wk : IntKind.i64.wrap ((k : Int) + 1) = (k : Int) + 1 := IntWalk.i64_in _ (by omega)
    have HE := Lib.hid Er
    have HKP := Lib.hid KPr
    have HKX := Lib.hid KXr
    have HRR := Lib.hid rr
    by_cases h1 : k = J
    · have b1 : ((k : Int) != (J : Int)) = false := by simp [h1]
      clear h1 Er KPr KXr rr
      go_wp2_with fail
      go_quiet (fail)
      go_wp2_with fail
      go_roundw
      case rel => exact ⟨k + 1, by omega, by go_num, HE.out.drewN _, HKP.out.drewN _, HKX.out.drewN _, HRR.out.drewN _⟩
      case measure => simp [intOf] <;> omega
    have b1 : ((k : Int) != (J : Int)) = true := by simp; omega
    by_cases h2 : k = J + 1
    · have b2 : ((k : Int) != (J : Int) + 1) = false := by simp [h2]
      clear h1 h2 Er KPr KXr rr
      go_wp2_with fail
      go_quiet (fail)
      go_wp2_with fail
      go_roundw
      case rel => exact ⟨k + 1, by omega, by go_num, HE.out.drewN _, HKP.out.drewN _, HKX.out.drewN _, HRR.out.drewN _⟩
      case measure => simp [intOf] <;> omega
    have b2 : ((k : Int) != (J : Int) + 1) = true := by simp; omega
    obtain ⟨ba, oa, rfl, _, hca⟩ := (H0.out.ext Er).at (by omega)
    obtain ⟨bb, ob, rfl, _, hcb⟩ := rr.at (by omega)
    have e1 := hca k hlt
    have e2 := hcb k hlt
    rw [HFAR.out k h1 h2] at e1
    generalize B.getD k 0 = X at e1 e2
    clear h1 h2 Er KPr KXr rr hca hcb
    go_wp2_with fail
    go_quiet (fail)
    go_wp2_with fail
    go_roundw
    case rel => exact ⟨k + 1, by omega, by go_num, HE.out.drewN _, HKP.out.drewN _, HKX.out.drewN _, HRR.out.drewN _⟩
    case measure => simp [intOf] <;> omega
set_option maxRecDepth 100000 in
theorem lifted (os : Os) (started : os.Started) (H : Type) (enc : TypeId × Value → H) :
    ReturnsInHanded {} Tryd.checked os 8 .any (fun w args => (Rows.crossBackSpec.pre enc Tryd.prog Tryd.f8 [] false w args ∧ laidMetH Tryd.prog laid w) ∧ sizedMet enc Tryd.prog Tryd.f8 (OpenSpec.ofChange Rows.crossBackSpec) false w args)
      (Rows.crossBackSpec.post enc Tryd.prog Tryd.f8 false true false false) := by
  refine returnsInHanded_of_change_and (C := Tryd.checked) (X := fun w _ => laidMetH Tryd.prog laid w) (fun _ _ _ hh h => h.of_heap hh) own started (by kernel_rfl) Tryd.func8
    (ChangeSpec.witness_at (enc := enc) (C := Tryd.checked) (os := os) (X := fun w _ => laidMetH Tryd.prog laid w) false (laidWorld os) #[.agg #[.int .i64 0, .int .i64 0, .int .i64 0, .int .i64 0, .int .i64 0, .int .i64 0, .int .i64 0, .int .i64 0, .int .i64 0, .int .i64 0, .int .i64 0, .int .i64 0, .int .i64 0, .int .i64 0, .int .i64 0, .int .i64 0, .int .i64 0, .int .i64 0, .slice none 0 0], .int .i64 0, .int .i64 0] 8 rfl (by kernel_rfl) (by kernel_rfl) (by kernel_rfl) (by kernel_rfl) (by kernel_rfl) (laidWorld_met os _)) ?_
  intro W base args ds gs before hval0 hW _ _ hL _
  have hval : ∀ (j : Nat) t v, Tryd.f8.params[j]? = some t → args[j]? = some v → Value.okWide Tryd.prog W .any base t v := hval0
  have hW' := hW
  obtain ⟨p, q, hA0, hV0, rfl, hfz, hnd⟩ := hW
  have hA : DataW.TrodAll enc Tryd.prog W 0 (fun _ => true) true Tryd.f8.params.toList args.toList ds p := hA0
  have hV : DataW.TrodVars enc Tryd.prog W (fun _ => true) [] gs q := hV0
  have hg := handle_of_laid hL
  rw [Tryd.params8] at hA hval
  obtain ⟨v0, vs0, d0, ds0, p0, q0, hargs, rfl, rfl, h0, r0⟩ := trodAll_cons hA
  obtain ⟨v1, vs1, d1, ds1, p1, q1, rfl, rfl, rfl, h1, r1⟩ := trodAll_cons r0
  obtain ⟨v2, vs2, d2, ds2, p2, q2, rfl, rfl, rfl, h2, r2⟩ := trodAll_cons r1
  obtain ⟨rfl, rfl, rfl⟩ := trodAll_nil r2
  obtain rfl : args = #[v0, v1, v2] := by cases args; simp_all
  obtain ⟨rfl, rfl⟩ := vars_nil hV
  have lt0 : ∀ x ∈ p0, x.block < W.heap.size := by obtain ⟨m, hm⟩ := h0; exact DataW.trod_lt m _ _ _ hm
  have k0 := h0
  obtain ⟨pk0, a0, n0, c0, x0, rfl, w0⟩ := open_pack6 (hval 0 72 v0 rfl rfl) h0
  have lt1 : ∀ x ∈ p1, x.block < W.heap.size := by obtain ⟨m, hm⟩ := h1; exact DataW.trod_lt m _ _ _ hm
  have k1 := h1
  obtain ⟨x1, rfl, _, _, w1'⟩ := open_int Tryd.underlying3 (hval 1 3 v1 rfl rfl) h1
  have w1 : IsInt x1 := wf_i64 w1'
  have lt2 : ∀ x ∈ p2, x.block < W.heap.size := by obtain ⟨m, hm⟩ := h2; exact DataW.trod_lt m _ _ _ hm
  have k2 := h2
  obtain ⟨x2, rfl, _, _, w2'⟩ := open_int Tryd.underlying3 (hval 2 3 v2 rfl rfl) h2
  have w2 : IsInt x2 := wf_i64 w2'
  clear hA0 hval0
  refine (walk pk0 a0 n0 c0 x0 x1 x2 W hg w0 w1 w2).mono fun e W' ⟨he, bel⟩ => ?_
  subst he
  exact ⟨_, rfl, _, _, _, [], _, [], hW', trodAll_mk1 (shut_bool Tryd.underlying4 _), (trodAll_cons_mk (Below.trod laidOut (by kernel_rfl) (of_decide_eq_true (by kernel_rfl)) k0 bel lt0) (trodAll_cons_mk (Below.trod laidOut (by kernel_rfl) (of_decide_eq_true (by kernel_rfl)) k1 bel lt1) (trodAll_cons_mk (Below.trod laidOut (by kernel_rfl) (of_decide_eq_true (by kernel_rfl)) k2 bel lt2) trodAll_mk0))), rfl, bel.frame _, fun h => by cases h⟩

theorem over : Rows.crossBackRow.holds Tryd.pinned (OpenSpec.ofChange Rows.crossBackSpec) :=
  OpenClaim.holds_of_wide 8 Tryd.f8 rfl rfl rfl rfl rfl rfl rfl ⟨rfl, rfl, rfl, rfl, rfl⟩ rfl rfl rfl rfl rfl (by kernel_rfl) Tryd.func8 (by kernel_rfl)
    (of_decide_eq_true (by kernel_rfl)) (by unfold Func.isWrapper; first | (rw [if_pos (by decide +kernel)]; kernel_rfl) | (rw [if_neg (by decide +kernel)]; exact ⟨rfl, rfl⟩))
    (fun os started H enc _ => lifted os started H enc)

/-- THE STATEMENT. -/
theorem proved : Rows.CrossBackCardSaid :=
  Claim7.holds_tied_plain_at .later [] _ _ _ _
    over (fun _ h => by cases h) (by kernel_rfl) (fun _ h => by cases h) crossBack_row_tie rfl ⟨rfl, rfl⟩ (by kernel_rfl) rfl
    (fun f fn hf hfn => by
      obtain rfl : f = 8 := Option.some.inj ((show Tryd.prog.funcNamed "gangplank/gangplanklaw1.CrossBack" = some 8 by kernel_rfl).symm.trans hf) |>.symm
      obtain rfl : fn = Tryd.f8 := (Option.some.inj (Tryd.func8.symm.trans hfn)).symm
      exact ⟨by kernel_rfl, fun j t ht => by
        rw [Tryd.params8] at ht
        have hall : ((#[72, 3, 3] : Array Nat).all fun t => !Tryd.prog.wantsStandIn t) = true := by kernel_rfl
        have := Array.all_eq_true'.1 hall t (Array.mem_of_getElem? ht)
        show Tryd.prog.wantsStandIn t = false
        simpa using this⟩)
    (by kernel_rfl)
#print axioms proved
end Go.Proofs.YtkjchddidpjjmaaDoor.crossBack
