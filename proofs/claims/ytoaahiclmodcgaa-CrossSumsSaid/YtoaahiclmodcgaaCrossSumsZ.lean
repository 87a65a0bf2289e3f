/- The law CrossSums: the check of what crossed is the old one, with the numbers of the old addresses swapped for those of the new ones. Conditions: none. -/
import Derived.Test.YtoaahiclmodcgaaRows
import Derived.Test.YtoaahiclmodcgaaBase
import Derived.ProofKit
import Derived.OpenShut
import Derived.ShutString
import Derived.ChangeOld
import Derived.Test.YtoaahiclmodcgaaSix
import Derived.Deep.Slices
import Derived.Test.YtoaahiclmodcgaaIp4
import Derived.Test.YtoaahiclmodcgaaIp6
import Derived.Test.YtoaahiclmodcgaaSegE
import Derived.Test.YtoaahiclmodcgaaRef4
import Derived.Test.YtoaahiclmodcgaaSegC
import Derived.Test.YtoaahiclmodcgaaRef6
import Derived.Test.YtoaahiclmodcgaaSegC6
import Derived.Test.YtoaahiclmodcgaaIp4l
import Derived.Test.YtoaahiclmodcgaaErv
import Derived.Deep.RegionHeld3
import Derived.Deep.DeepCutAuto
import Derived.Test.YtoaahiclmodcgaaTail
import Derived.Test.YtoaahiclmodcgaaStore
import Derived.Laws.Tables
import Derived.Test.YtoaahiclmodcgaaOver6
import Derived.Test.YtoaahiclmodcgaaOf
import Derived.Test.YtoaahiclmodcgaaMem
import Derived.Test.YtoaahiclmodcgaaIp6k
import Derived.BigQuiet
/- What an argument of a law is, once it is read: bytes, numbers. Conditions: as each lemma states them. -/
namespace Go.Proofs.Ytoaahiclmodcgaa
open Go.ChangeShapes Go.WideShapes Go.ChangeAt Go.RowKit

theorem own : ownKnob Try.prog.godebug = none := by kernel_rfl
theorem laidOut : laidOutB Try.prog = true := by kernel_rfl

theorem wf_u8 {x : Int} (h : (Lit.int .u8 x).wf = true) : 0 ≤ x ∧ x ≤ 255 := by
  simp [Lit.wf, IntKind.min, IntKind.max, IntKind.signed, IntKind.bits] at h
  omega
theorem wf_i64 {x : Int} (h : (Lit.int .i64 x).wf = true) : -9223372036854775808 ≤ x ∧ x ≤ 9223372036854775807 := by
  simp [Lit.wf, IntKind.min, IntKind.max, IntKind.signed, IntKind.bits] at h
  omega

/-- A slice of bytes that came in. -/
def IsBytes (w : World) (a : Option Addr) (n c : Nat) (xs : List Int) : Prop := Ints .u8 w a n xs ∧ Pl.IsB xs ∧ n ≤ c ∧ c ≤ maxLen
/-- A number that came in. -/
def IsInt (x : Int) : Prop := -9223372036854775808 ≤ x ∧ x ≤ 9223372036854775807

theorem ints_of_cells {k : IntKind} {w : World} {a : Addr} {len cap : Nat} {zs : List Int} (hl : len ≤ cap) (hz : zs.length = cap) (hcell : ∀ i, i < zs.length → w.cell? (a.add i) = some (.int k (zs.getD i 0))) : Ints k w (some a) len (zs.take len) := by
  refine ⟨by rw [List.length_take]; omega, ?_⟩
  rcases Nat.eq_zero_or_pos len with h0 | h0
  · exact .inl h0
  · refine .inr ?_
    obtain ⟨b, off, spot⟩ := a
    have hc := hcell 0 (by omega)
    have hspot : spot = none := by simpa [Addr.add] using World.cell?_spot hc
    subst hspot
    refine ⟨b, off, rfl, fun i hi => ?_⟩
    have h := hcell i (by omega)
    rw [Addr.add_lit] at h
    rw [h]
    simp [List.getD, hi]

theorem open_bytes {H : Type} {enc : TypeId × Value → H} {W : World} {a : Option Addr} {n c : Nat} {d : DataW H} {p : List MemPlace}
    (h : DataW.Trod enc Try.prog W 0 (fun _ => true) true 41 (.slice a n c) d p) : ∃ xs, IsBytes W a n c xs := by
  obtain ⟨fuel, hf⟩ := h
  rcases open_ints Try.underlying41 Try.underlying5 (by kernel_rfl) hf with ⟨hcs, _⟩ | ⟨x, l, c', zs, hcs, _, hl, hm, hz, _, hcell, hwz⟩
  · simp [Value.cells] at hcs
    obtain ⟨rfl, rfl, rfl⟩ := hcs
    exact ⟨[], Ints.nil, Pl.IsB.nil, Nat.le_refl _, Nat.zero_le _⟩
  · simp [Value.cells] at hcs
    obtain ⟨rfl, rfl, rfl⟩ := hcs
    exact ⟨zs.take n, ints_of_cells hl (by simpa using hz) hcell, fun y hy => wf_u8 (hwz y (List.mem_of_mem_take hy)), hl, hm⟩

end Go.Proofs.Ytoaahiclmodcgaa
/- What an argument is, once it is read: an address. Conditions: as each lemma states them. -/
namespace Go.Proofs.Ytoaahiclmodcgaa
open Go.ChangeShapes Go.WideShapes Go.ChangeAt Go.RowKit

def Six.Is (s : Six) : Prop := ∀ k, IsInt (s.l.getD k 0)

section
variable {H : Type} {enc : TypeId × Value → H} {W : World}

theorem open_cell_int {n : Nat} {c : Value} {y : Option (DataW H × List MemPlace)} (hy : y.isSome = true) (h : DataW.trod enc Try.prog W 0 (fun _ => true) true n 3 [c] = y) : ∃ x, c = .int .i64 x ∧ IsInt x := by
  obtain ⟨y, rfl⟩ := Option.isSome_iff_exists.1 hy
  obtain ⟨x, hx, _, hw⟩ := DataW.trod_int Try.underlying3 h
  exact ⟨x, by simpa using hx, wf_i64 hw⟩
theorem isSome_at {α : Type} {xs : List α} {n j : Nat} (h : xs.length = n) (hj : j < n) : (xs[j]?).isSome = true := by
  rw [List.getElem?_eq_getElem (by omega)]; rfl

theorem Try.cellsInt : Try.prog.cellsOf 3 = 1 := by kernel_rfl
theorem Try.cellsSix : Try.prog.cellsOf 23 = 8 := by kernel_rfl

set_option maxRecDepth 100000 in
theorem open_cells_six {n : Nat} {cs : List Value} {y : Option (DataW H × List MemPlace)} (hy : y.isSome = true) (h : DataW.trod enc Try.prog W 0 (fun _ => true) true n 23 cs = y) : ∃ s : Six, cs = s.cells.toList ∧ s.Is := by
  obtain ⟨y, rfl⟩ := Option.isSome_iff_exists.1 hy
  obtain ⟨xs, m, _, _, hl, hlen, hg⟩ := DataW.trod_array Try.underlying23 h
  match cs, hl.trans Try.cellsSix with
  | [c0, c1, c2, c3, c4, c5, c6, c7], _ =>
    obtain ⟨x0, rfl, i0⟩ := open_cell_int (isSome_at (j := 0) hlen (by omega)) (by simpa [Try.cellsInt] using hg 0 (by omega))
    obtain ⟨x1, rfl, i1⟩ := open_cell_int (isSome_at (j := 1) hlen (by omega)) (by simpa [Try.cellsInt] using hg 1 (by omega))
    obtain ⟨x2, rfl, i2⟩ := open_cell_int (isSome_at (j := 2) hlen (by omega)) (by simpa [Try.cellsInt] using hg 2 (by omega))
    obtain ⟨x3, rfl, i3⟩ := open_cell_int (isSome_at (j := 3) hlen (by omega)) (by simpa [Try.cellsInt] using hg 3 (by omega))
    obtain ⟨x4, rfl, i4⟩ := open_cell_int (isSome_at (j := 4) hlen (by omega)) (by simpa [Try.cellsInt] using hg 4 (by omega))
    obtain ⟨x5, rfl, i5⟩ := open_cell_int (isSome_at (j := 5) hlen (by omega)) (by simpa [Try.cellsInt] using hg 5 (by omega))
    obtain ⟨x6, rfl, i6⟩ := open_cell_int (isSome_at (j := 6) hlen (by omega)) (by simpa [Try.cellsInt] using hg 6 (by omega))
    obtain ⟨x7, rfl, i7⟩ := open_cell_int (isSome_at (j := 7) hlen (by omega)) (by simpa [Try.cellsInt] using hg 7 (by omega))
    refine ⟨⟨x0, x1, x2, x3, x4, x5, x6, x7⟩, rfl, fun k => ?_⟩
    match k with
    | 0 => exact i0
    | 1 => exact i1
    | 2 => exact i2
    | 3 => exact i3
    | 4 => exact i4
    | 5 => exact i5
    | 6 => exact i6
    | 7 => exact i7
    | k + 8 => simp [Six.l, IsInt]

set_option maxRecDepth 100000 in
/-- An address that came in. -/
theorem open_six {v : Value} {d : DataW H} {p : List MemPlace} {base : Nat} (hv : Value.okWide Try.prog W .any base 23 v) (h : DataW.Trod enc Try.prog W 0 (fun _ => true) true 23 v d p) : ∃ s : Six, v = s.v ∧ s.Is := by
  obtain ⟨fuel, hf⟩ := h
  obtain ⟨s, hs, hi⟩ := open_cells_six rfl hf
  simp only [Value.okWide, Try.underlying23] at hv
  obtain ⟨cs, rfl, _⟩ := hv
  refine ⟨s, ?_, hi⟩
  have : cs.toList = s.cells.toList := by simpa [Value.cells] using hs
  rw [Array.toList_inj.1 this]

end
end Go.Proofs.Ytoaahiclmodcgaa
/- What an argument that is a struct is, once it is read: each number and slice in it. Conditions: as each lemma states them. -/
namespace Go.Proofs.Ytoaahiclmodcgaa
open Go.ChangeShapes Go.WideShapes Go.ChangeAt Go.RowKit

section
variable {H : Type} {enc : TypeId × Value → H} {W : World}

theorem open_field_int {n : Nat} {t : TypeId} (ht : Try.prog.underlying t = some (.int .i64)) {c : Value} {y : Option (DataW H × List MemPlace)} (hy : y.isSome = true) (h : DataW.trod enc Try.prog W 0 (fun _ => true) true n t [c] = y) : ∃ x, c = .int .i64 x ∧ IsInt x := by
  obtain ⟨y, rfl⟩ := Option.isSome_iff_exists.1 hy
  obtain ⟨x, hx, _, hw⟩ := DataW.trod_int ht h
  exact ⟨x, by simpa using hx, wf_i64 hw⟩
theorem open_field_bytes {n : Nat} {c : Value} {y : Option (DataW H × List MemPlace)} (hy : y.isSome = true) (h : DataW.trod enc Try.prog W 0 (fun _ => true) true n 41 [c] = y) : ∃ a l k xs, c = .slice a l k ∧ IsBytes W a l k xs ∧ (a = none → k = 0) := by
  obtain ⟨y, rfl⟩ := Option.isSome_iff_exists.1 hy
  rcases open_ints Try.underlying41 Try.underlying5 (by kernel_rfl) h with ⟨hcs, _⟩ | ⟨x, l, c', zs, hcs, _, hl, hm, hz, _, hcell, hwz⟩
  · obtain rfl : c = .slice none 0 0 := by simpa using hcs
    exact ⟨none, 0, 0, [], rfl, ⟨Ints.nil, Pl.IsB.nil, Nat.le_refl _, Nat.zero_le _⟩, fun _ => rfl⟩
  · obtain rfl : c = .slice (some x) l c' := by simpa using hcs
    exact ⟨some x, l, c', zs.take l, rfl, ⟨ints_of_cells hl (by simpa using hz) hcell, fun y hy => wf_u8 (hwz y (List.mem_of_mem_take hy)), hl, hm⟩, fun h => by cases h⟩

theorem isSome_of_len {α : Type} {xs : List α} {n j : Nat} (h : xs.length = n) (hj : j < n) : (xs[j]?).isSome = true := by
  rw [List.getElem?_eq_getElem (by omega)]; rfl

set_option maxRecDepth 100000 in
/-- A packet of fours that came in. -/
theorem open_pack4 {v : Value} {d : DataW H} {p : List MemPlace} {base : Nat} (hv : Value.okWide Try.prog W .any base 58 v) (h : DataW.Trod enc Try.prog W 0 (fun _ => true) true 58 v d p) :
    ∃ s d t k i a l c xs, v = pk4 s d t k i (.slice a l c) ∧ (IsInt s ∧ IsInt d ∧ IsInt t ∧ IsInt k ∧ IsInt i) ∧ IsBytes W a l c xs ∧ (a = none → c = 0) := by
  obtain ⟨cs, rfl, hsz⟩ := okWide_struct Try.underlying58 hv
  obtain ⟨l⟩ := cs
  have hC : Try.prog.cellsOf 58 = 6 := by kernel_rfl
  have hI : Try.prog.cellsOf 3 = 1 := by kernel_rfl
  have hB : Try.prog.cellsOf 41 = 1 := by kernel_rfl
  match l, hsz.trans hC with
  | [c0, c1, c2, c3, c4, c5], _ =>
    obtain ⟨fuel, hf⟩ := h
    obtain ⟨xs, n, _, _, _, hlen, hg⟩ := DataW.trod_struct Try.underlying58 hf
    have e0 : DataW.trod enc Try.prog W 0 (fun _ => true) true n 3 [c0] = xs[0]? := by simpa [Value.cells, hI] using hg 0 _ rfl
    have e1 : DataW.trod enc Try.prog W 0 (fun _ => true) true n 3 [c1] = xs[1]? := by simpa [Value.cells, hI] using hg 1 _ rfl
    have e2 : DataW.trod enc Try.prog W 0 (fun _ => true) true n 3 [c2] = xs[2]? := by simpa [Value.cells, hI] using hg 2 _ rfl
    have e3 : DataW.trod enc Try.prog W 0 (fun _ => true) true n 3 [c3] = xs[3]? := by simpa [Value.cells, hI] using hg 3 _ rfl
    have e4 : DataW.trod enc Try.prog W 0 (fun _ => true) true n 3 [c4] = xs[4]? := by simpa [Value.cells, hI] using hg 4 _ rfl
    have e5 : DataW.trod enc Try.prog W 0 (fun _ => true) true n 41 [c5] = xs[5]? := by simpa [Value.cells, hB] using hg 5 _ rfl
    obtain ⟨x0, rfl, i0⟩ := open_field_int Try.underlying3 (isSome_of_len hlen (by simp)) e0
    obtain ⟨x1, rfl, i1⟩ := open_field_int Try.underlying3 (isSome_of_len hlen (by simp)) e1
    obtain ⟨x2, rfl, i2⟩ := open_field_int Try.underlying3 (isSome_of_len hlen (by simp)) e2
    obtain ⟨x3, rfl, i3⟩ := open_field_int Try.underlying3 (isSome_of_len hlen (by simp)) e3
    obtain ⟨x4, rfl, i4⟩ := open_field_int Try.underlying3 (isSome_of_len hlen (by simp)) e4
    obtain ⟨a, m, k, ys, rfl, hy, hn⟩ := open_field_bytes (isSome_of_len hlen (by simp)) e5
    exact ⟨x0, x1, x2, x3, x4, a, m, k, ys, rfl, ⟨i0, i1, i2, i3, i4⟩, hy, hn⟩
end
end Go.Proofs.Ytoaahiclmodcgaa
/- What an argument is, once it is read: a packet of sixes. Conditions: as each lemma states them. -/
namespace Go.Proofs.Ytoaahiclmodcgaa
open Go.ChangeShapes Go.WideShapes Go.ChangeAt Go.RowKit
/-- A packet of sixes that came in. -/
def IsP6 (w : World) (p : P6) (a : Option Addr) (n c : Nat) (xs : List Int) : Prop := IsBytes w a n c xs ∧ (a = none → c = 0) ∧ p.src.Is ∧ p.dst.Is ∧ IsInt p.hop ∧ IsInt p.kind
section
variable {H : Type} {enc : TypeId × Value → H} {W : World}
theorem Try.cellsP6 : Try.prog.cellsOf 55 = 19 := by kernel_rfl
theorem Try.cellsB6 : Try.prog.cellsOf 41 = 1 := by kernel_rfl
set_option maxRecDepth 100000 in
theorem open_pack6 {v : Value} {d : DataW H} {p : List MemPlace} {base : Nat} (hv : Value.okWide Try.prog W .any base 55 v) (h : DataW.Trod enc Try.prog W 0 (fun _ => true) true 55 v d p) :
    ∃ (q : P6) (a : Option Addr) (n c : Nat) (xs : List Int), v = q.v (.slice a n c) ∧ IsP6 W q a n c xs := by
  obtain ⟨cs, rfl, hsz⟩ := okWide_struct Try.underlying55 hv
  obtain ⟨l⟩ := cs
  match l, hsz.trans Try.cellsP6 with
  | [c0, c1, c2, c3, c4, c5, c6, c7, c8, c9, c10, c11, c12, c13, c14, c15, c16, c17, c18], _ =>
    obtain ⟨fuel, hf⟩ := h
    obtain ⟨xs, m, _, _, _, hlen, hg⟩ := DataW.trod_struct Try.underlying55 hf
    obtain ⟨s0, h0, i0⟩ := open_cells_six (isSome_at (j := 0) hlen (by simp)) (by simpa [Value.cells, Try.cellsSix] using hg 0 _ rfl)
    obtain ⟨s1, h1, i1⟩ := open_cells_six (isSome_at (j := 1) hlen (by simp)) (by simpa [Value.cells, Try.cellsSix] using hg 1 _ rfl)
    obtain ⟨x2, rfl, i2⟩ := open_cell_int (isSome_at (j := 2) hlen (by simp)) (by simpa [Value.cells, Try.cellsInt] using hg 2 _ rfl)
    obtain ⟨x3, rfl, i3⟩ := open_cell_int (isSome_at (j := 3) hlen (by simp)) (by simpa [Value.cells, Try.cellsInt] using hg 3 _ rfl)
    obtain ⟨a, n, k, ys, rfl, hy, hn⟩ := open_field_bytes (isSome_at (j := 4) hlen (by simp)) (by simpa [Value.cells, Try.cellsB6] using hg 4 _ rfl)
    refine ⟨⟨s0, s1, x2, x3⟩, a, n, k, ys, ?_, hy, hn, i0, i1, i2, i3⟩
    have e0 : [c0, c1, c2, c3, c4, c5, c6, c7] = s0.cells.toList := h0
    have e1 : [c8, c9, c10, c11, c12, c13, c14, c15] = s1.cells.toList := h1
    simp only [Six.cells, List.cons.injEq, and_true] at e0 e1
    obtain ⟨rfl, rfl, rfl, rfl, rfl, rfl, rfl, rfl⟩ := e0
    obtain ⟨rfl, rfl, rfl, rfl, rfl, rfl, rfl, rfl⟩ := e1
    rfl
end
end Go.Proofs.Ytoaahiclmodcgaa
/- The document's answers on segments as bytes: SegBytes, CheckOf. Conditions: as each theorem states them. -/
namespace Go.Proofs.Ytoaahiclmodcgaa
open Go.RowKit
end Go.Proofs.Ytoaahiclmodcgaa
/- The document's SegOf: bytes as a segment over something. Conditions: as each theorem states them. -/
namespace Go.Proofs.Ytoaahiclmodcgaa
open Go.RowKit
/-- What SegOf gives. -/
def RDecGot (k : Int) (xs : List Int) (over : Int) (w : World) (e : Ending) (w' : World) : Prop :=
  ∃ a n c, e = .returned (.tuple #[(Pl.segV k xs over).v (.slice a n c), .int .i64 (Pl.segQ k xs over)]) ∧ Ints .u8 w' a n (Pl.segD k xs over) ∧ Ext w w'
theorem rdecGot_bad {k over q : Int} {xs : List Int} {w w' : World} (h : Pl.segQ k xs over = q) (hq : q ≠ 0) (he : Ext w w') : RDecGot k xs over w (.returned (.tuple #[.agg #[.int .i64 0, .int .i64 0, .int .i64 0, .int .i64 0, .int .i64 0, .int .i64 0, .int .i64 0, .slice none 0 0], .int .i64 q])) w' := by
  refine ⟨none, 0, 0, ?_, ?_, he⟩
  · unfold Pl.segV
    rw [h, if_neg hq]
    rfl
  · unfold Pl.segD
    rw [h, if_neg hq]
    exact Ints.nil
theorem w16_word {n : Int} (h : Pl.Word n) : w16 n = true := by unfold w16; have h0 := h.1; have h1 := h.2; simp [h0, h1]
theorem w16_not_word {n : Int} (h : ¬ Pl.Word n) : w16 n = false := by
  cases hw : w16 n
  · rfl
  · exact absurd (w16_yes hw) h
end Go.Proofs.Ytoaahiclmodcgaa
/- The document's SegOf: bytes as a segment over something, of TCP. Conditions: as each theorem states them. -/
namespace Go.Proofs.Ytoaahiclmodcgaa
open Go.RowKit
end Go.Proofs.Ytoaahiclmodcgaa
/- seg.Decode and the document's SegOf of any bytes, any kind. Conditions: as each theorem states them. -/
namespace Go.Proofs.Ytoaahiclmodcgaa
open Go.RowKit
theorem sdecode_any (k : Int) (a : Option Addr) (n c : Nat) (xs : List Int) (over : Int) (w : World) (hr : Ints .u8 w a n xs) (hb : Pl.IsB xs) (hnc : n ≤ c) (hc : a = none → c = 0) :
    Calls Try.prog 51 #[.int .i64 k, .slice a n c, .int .i64 over] w (DecGot k xs over w) := by
  by_cases hk : k = 6 ∨ k = 17
  case neg => exact sdecode_bad k a n c xs over w (.inl hk)
  by_cases ho : Pl.Word over
  case neg => exact sdecode_bad k a n c xs over w (.inr ho)
  rcases hk with rfl | rfl
  · by_cases h0 : 20 ≤ n ∧ n ≤ 320
    · exact sdecode_core6 a n c xs over w hr hb hnc hc ho h0.1 h0.2
    · exact sdecode_short6 a n c xs over w hr ho (by omega)
  · by_cases h0 : 8 ≤ n ∧ n ≤ 308
    · exact sdecode_core17 a n c xs over w hr hb hnc hc ho h0.1 h0.2
    · exact sdecode_short17 a n c xs over w hr ho (by omega)
/-- Bytes, when another block is written anew. -/
theorem Ints.keepRow {k : IntKind} {w : World} {a : Option Addr} {n : Nat} {xs : List Int} (h : Ints k w a n xs) (g : Nat) (cs : Array Value) (hg : 0 < n → ∀ p, a = some p → p.block ≠ g) : Ints k (w.setRow g cs) a n xs := by
  by_cases hn : 0 < n
  · obtain ⟨b, off, rfl, hb, hc⟩ := h.at hn
    exact ⟨h.1, .inr ⟨b, off, rfl, fun i hi => (World.cell?_of_block (setRow_other w g b cs (hg hn _ rfl))).trans (hc i hi)⟩⟩
  · obtain rfl : n = 0 := by omega
    obtain rfl : xs = [] := List.length_eq_zero_iff.1 h.len
    exact Ints.nil
/-- A load whose run is known, in a region. -/
theorem exec_load {P : Program} {ρ : Operand → Value} {o : Oper} {w : World} {v : Value} {p : Addr} {ty : TypeId} {x : Operand} (ho : o.op = .load ty x) (hx : ρ x = .pointer (some p)) (h : (Instr.loadAt ty (.pointer (some p))).run P w = .ok v w) :
    (execOp ρ o).run P w = .ok (.value v) w := by
  unfold execOp
  simp only [ho, hx, Sem.run_bind, h, Result.andThen_ok, Sem.run_pure]
/-- The fault, as both tell it. -/
theorem chk_any (s : Sg) (a : Option Addr) (n c : Nat) (w : World) : Calls Try.prog 40 #[s.v (.slice a n c)] w fun e w' => e = .returned (erv (Pl.segFault s n)) ∧ Ext w w' :=
  (scheck_any s a n c w).mono fun _ _ ⟨h, q⟩ => ⟨h, q⟩
end Go.Proofs.Ytoaahiclmodcgaa
/- The document's answers on packets of fours: Fault4, Bytes4, Encoded4. Conditions: as each theorem states them. -/
namespace Go.Proofs.Ytoaahiclmodcgaa
open Go.RowKit
def ok4b (s d t k i : Int) : Bool := w32 s && w32 d && w8 t && w8 k && w16 i
theorem ok4b_yes {s d t k i : Int} (h : ok4b s d t k i = true) : Pl.Ok4 s d t k i := by
  unfold ok4b at h
  simp only [Bool.and_eq_true] at h
  exact ⟨w32_yes h.1.1.1.1, w32_yes h.1.1.1.2, w8_yes h.1.1.2, w8_yes h.1.2, w16_yes h.2⟩
theorem ok4b_no {s d t k i : Int} (h : ok4b s d t k i = false) : ¬ Pl.Ok4 s d t k i := by
  rintro ⟨⟨a0, a1⟩, ⟨b0, b1⟩, ⟨c0, c1⟩, ⟨d0, d1⟩, ⟨e0, e1⟩⟩
  have : ok4b s d t k i = true := by
    unfold ok4b w32 w8 w16
    simp only [Bool.and_eq_true, decide_eq_true_eq]
    omega
  rw [this] at h
  cases h
/-- What is wrong with a packet of n bytes. -/
def fault4 (s d t k i : Int) (n : Nat) : Int := if ok4b s d t k i = true then (if n ≤ 320 then 0 else 3) else 1

end Go.Proofs.Ytoaahiclmodcgaa
/- The document's Decoded4. Conditions: as each theorem states them. -/
namespace Go.Proofs.Ytoaahiclmodcgaa
open Go.RowKit
theorem Ext.drawn4 {a b w : World} (h : Ext a b) (e : ∃ q, w = b.drewN q) : Ext a w ∧ Ext b w := by
  obtain ⟨q, rfl⟩ := e
  exact ⟨h.drewN q, (Ext.refl b).drewN q⟩
theorem Ext.drewN' {a b : World} (h : Ext a b) (q : Nat) : Ext a (b.drewN q) := h.drewN q
theorem Ext.drew' {a b : World} (h : Ext a b) : Ext a b.drew := h.drew
theorem Ext.alloc' {a b : World} (h : Ext a b) (o : Obj) : Ext a (b.alloc o) := h.alloc o
theorem drawn_size {b w : World} (e : ∃ q, w = b.drewN q) : w.heap.size = b.heap.size := by
  obtain ⟨q, rfl⟩ := e
  rfl
/-- At a store whose run is known, in a region. -/
theorem wp_store_by4 {P : Program} {o : Oper} {a : Act} {w : World} {K : Act → World → Prop} {Q : Exit → Act → World → Prop} (ty : TypeId) (x y : Operand) (ho : o.op = .store ty x y) (p : Addr) (hx : a.eval x = .pointer (some p)) {v : Value} {w' : World}
    (h : (Instr.storeAt ty (.pointer (some p)) v).run P w = .ok () w') (hy : a.eval y = v) (k : K (a.put o.dst undef) w') : Oper.wp P o a w K Q := by
  unfold Oper.wp execOp
  simp only [ho, hx, hy, Sem.run_bind, h, Result.andThen_ok, Sem.run_pure]
  exact k
theorem at_worldF {P : Program} {c : Code} {Q : Exit → Act → World → Prop} {a : Act} {W : World} (X : World → Prop) (h : X W) (k : ∀ W', X W' → c.wp P Q a W') : c.wp P Q a W := k W h
namespace Pl
/-- Have bytes a packet's shape? -/
def Shape4 (xs : List Int) : Prop := (20 ≤ xs.length ∧ xs.length ≤ 340) ∧ at2 xs 0 = 17664 ∧ at2 xs 2 = xs.length ∧ at2 xs 6 = 16384
end Pl
abbrev c4 (s d t k i : Int) (v : Value) : Array Value := #[.int .i64 s, .int .i64 d, .int .i64 t, .int .i64 k, .int .i64 i, v]
theorem Try.sizeP4 : (Try.prog.info? 58).map (·.size) = some 6 := by kernel_rfl
theorem Blk.p4 {w : World} {g : Nat} {t : TypeId} {s d tt k i : Int} {v : Value} (h : Blk w g t (c4 s d tt k i v)) : (Instr.loadAt 58 (.pointer (some ⟨g, 0, none⟩))).run Try.prog w = .ok (.agg (c4 s d tt k i v)) w := by
  have := run_loadAt_mid (P := Try.prog) w g 0 58 (c4 s d tt k i v).toList _ (fun j v hv => by
    rw [Array.getElem?_toList] at hv
    rw [h.cells, Nat.zero_add]; exact hv) Try.underlying58 rfl Try.sizeP4
  rw [Array.toArray_toList] at this
  exact this
theorem sto4 {w : World} {R : Nat} {ty : TypeId} {x0 x1 x2 x3 x4 : Int} {v0 : Value} (kb : Blk w R ty (c4 x0 x1 x2 x3 x4 v0)) (s d t k i : Int) (a : Option Addr) (n c : Nat) :
    (Instr.storeAt 58 (.pointer (some ⟨R, 0, none⟩)) (.agg #[.int .i64 s, .int .i64 d, .int .i64 t, .int .i64 k, .int .i64 i, .slice a n c])).run Try.prog w = .ok () (w.setRow R (c4 s d t k i (.slice a n c))) :=
  kb.store rfl Try.sizeP4 (by simp [Value.oneCell'])

end Go.Proofs.Ytoaahiclmodcgaa
/- Opening a packet: cross.read, cross.Open6, cross.Open4, the document's Seg6, Seg4. Conditions: as each theorem states them (the packet may be). -/
namespace Go.Proofs.Ytoaahiclmodcgaa
open Go.RowKit
namespace Pl
/-- What is wrong with a body, as a segment of that kind over something. -/
def opQ (k : Int) (xs : List Int) (over : Int) : Int := if ¬ (k = 6 ∨ k = 17) then 2 else segQ k xs over
def opV (k : Int) (xs : List Int) (over : Int) : Sg := if opQ k xs over = 0 then decSeg k xs else ⟨0, 0, 0, 0, 0, 0, 0⟩
def opD (k : Int) (xs : List Int) (over : Int) : List Int := if opQ k xs over = 0 then xs.drop (segSize k) else []
theorem op_known {k over : Int} {xs : List Int} (hk : k = 6 ∨ k = 17) : opQ k xs over = segQ k xs over ∧ opV k xs over = segV k xs over ∧ opD k xs over = segD k xs over := by
  have h : opQ k xs over = segQ k xs over := by unfold opQ; rw [if_neg (fun hn => hn hk)]
  refine ⟨h, ?_, ?_⟩
  · unfold opV segV; rw [h]
  · unfold opD segD; rw [h]
end Pl
def OpGot (k : Int) (xs : List Int) (over : Int) (w : World) (e : Ending) (w' : World) : Prop :=
  ∃ a n c, e = .returned (.tuple #[(Pl.opV k xs over).v (.slice a n c), erv (Pl.opQ k xs over)]) ∧ Own w' w.heap.size (.slice a n c) (Pl.opD k xs over) ∧ Ext w w'
def ROpGot (k : Int) (xs : List Int) (over : Int) (w : World) (e : Ending) (w' : World) : Prop :=
  ∃ a n c, e = .returned (.tuple #[(Pl.opV k xs over).v (.slice a n c), .int .i64 (Pl.opQ k xs over)]) ∧ Ints .u8 w' a n (Pl.opD k xs over) ∧ Ext w w'
set_option maxRecDepth 100000 in
set_option maxHeartbeats 2000000 in
theorem read_any (k : Int) (a : Option Addr) (n c : Nat) (xs : List Int) (over : Int) (w : World) (hr : Ints .u8 w a n xs) (hb : Pl.IsB xs) (hnc : n ≤ c) (hc : a = none → c = 0) :
    Calls Try.prog 43 #[.int .i64 k, .slice a n c, .int .i64 over] w (OpGot k xs over w) := by
  have KR := Blk.new w 47 #[.int .i64 0, .int .i64 0, .int .i64 0, .int .i64 0, .int .i64 0, .int .i64 0, .int .i64 0, .slice none 0 0]
  have E0 : Ext w (w.alloc (.cells #[.int .i64 0, .int .i64 0, .int .i64 0, .int .i64 0, .int .i64 0, .int .i64 0, .int .i64 0, .slice none 0 0] 47)) := (Ext.refl w).alloc _
  by_cases hk : k = 6 ∨ k = 17
  case neg =>
    have k6 : (k != 6) = true := by simp; omega
    have k17 : (k != 17) = true := by simp; omega
    have HQ := Lib.hid (show Pl.opQ k xs over = 2 by unfold Pl.opQ; rw [if_pos hk])
    have s0 := sto KR ⟨0, 0, 0, 0, 0, 0, 0⟩ none 0 0
    clear hk
    go_enter Try.func43, Try.ntmps43
    go_wp2_with ((apply store_by rfl _ _ _ rfl _ rfl); (focus (with_reducible assumption)); (focus rfl))
    refine bodyPost_ret (results_cell2 Try.results43 _ _ w.heap.size 47 #[.int .i64 0, .int .i64 0, .int .i64 0, .int .i64 0, .int .i64 0, .int .i64 0, .int .i64 0, .slice none 0 0] _ rfl (KR.row _) Try.underlying47 rfl Try.sizeSeg) rfl ⟨none, 0, 0, ?_, ?_, E0.row (Nat.le_refl _) _⟩
    · unfold Pl.opV
      rw [HQ.out, if_neg (by decide)]
      rfl
    · unfold Pl.opD
      rw [HQ.out, if_neg (by decide)]
      exact Own.nil _ _
  obtain ⟨e1, e2, e3⟩ := Pl.op_known (over := over) (xs := xs) hk
  have HD := Lib.hid (sdecode_any k a n c xs over _ (hr.ext E0) hb hnc hc)
  unfold DecGot at HD
  unfold OpGot
  rw [e1, e2, e3]
  generalize Pl.segV k xs over = V at *
  generalize Pl.segQ k xs over = Q at *
  generalize Pl.segD k xs over = D at *
  clear e1 e2 e3
  have key : (k != 6 && k != 17) = false := by rcases hk with rfl | rfl <;> rfl
  have fin : ∀ (v : Value) (W1 : World), Own W1 (w.heap.size + 1) v D → Ext (w.alloc (.cells #[.int .i64 0, .int .i64 0, .int .i64 0, .int .i64 0, .int .i64 0, .int .i64 0, .int .i64 0, .slice none 0 0] 47)) W1 → ∃ a n c, v = .slice a n c ∧ (Instr.storeAt 47 (.pointer (some ⟨w.heap.size, 0, none⟩)) (.agg (V.cells (.slice a n c)))).run Try.prog W1 = .ok () (W1.setRow w.heap.size (V.cells (.slice a n c))) ∧ Blk (W1.setRow w.heap.size (V.cells (.slice a n c))) w.heap.size 47 (V.cells (.slice a n c)) ∧ Own (W1.setRow w.heap.size (V.cells (.slice a n c))) w.heap.size (.slice a n c) D ∧ Ext w (W1.setRow w.heap.size (V.cells (.slice a n c))) := fun v W1 o q => by
    obtain ⟨a1, n1, c1, rfl, _, _⟩ := o.read
    have K1 := KR.ext q
    refine ⟨a1, n1, c1, rfl, sto K1 V a1 n1 c1, K1.row _, (o.rowOff (fun j hj => by have := (o.lt j hj).1; omega) _).mono (Nat.le_succ _), (E0.trans q).row (Nat.le_refl _) _⟩
  have HFIN := Lib.hid fin
  clear fin key hr hb
  rcases hk with rfl | rfl
  all_goals
    go_enter Try.func43, Try.ntmps43
    go_wp2_with fail
    refine HD.out.mono ?_
    rintro e W1 ⟨v, rfl, o, q⟩
    obtain ⟨a1, n1, c1, rfl, st, K1, o1, E1⟩ := HFIN.out v W1 (o.mono (by simp)) q
    have HO1 := Lib.hid o1
    have HE1 := Lib.hid E1
    clear o q o1 E1
    go_wp2_with ((apply store_by rfl _ _ _ rfl _ rfl); (focus (with_reducible assumption)); (focus rfl))
    refine bodyPost_ret (results_cell2 Try.results43 _ _ w.heap.size 47 (V.cells (.slice a1 n1 c1)) _ rfl K1 Try.underlying47 rfl Try.sizeSeg) rfl ⟨a1, n1, c1, rfl, HO1.out, HE1.out⟩

theorem val6_word {s d : Six} {k n : Int} : Pl.Word (val6 s d k n) := ⟨Pl.fold_lo _, Pl.fold_hi _⟩
theorem val4_word {s d k n : Int} : Pl.Word (val4 s d k n) := ⟨Pl.fold_lo _, Pl.fold_hi _⟩
theorem ok6_good {p : P6} {n : Nat} (hg : p.good = true) (hn : n ≤ 320) : ok6 p.src p.dst p.kind n = true := by
  obtain ⟨h1, h2, _, ⟨h3, h4⟩⟩ := P6.good_all hg
  unfold ok6 okO w8
  rw [h1, h2]
  simp [h3, h4]
  omega
theorem over6_good (p : P6) (n : Nat) (w : World) (hg : p.good = true) (hn : n ≤ 320) : Calls Try.prog 42 #[p.src.v, p.dst.v, .int .i64 p.kind, .int .i64 n] w fun e w' => e = .returned (.tuple #[.int .i64 (val6 p.src p.dst p.kind n), .nilIface]) ∧ Ext w w' := by
  have := over6_any p.src p.dst p.kind n w
  rw [ok6_good hg hn] at this
  exact this
theorem ok4_good {s d t k i : Int} {n : Nat} (hg : Pl.Ok4 s d t k i) (hn : n ≤ 320) : ok4 s d k n = true := by
  obtain ⟨⟨s0, s1⟩, ⟨d0, d1⟩, _, ⟨k0, k1⟩, _⟩ := hg
  have h1 : w32 s = true := by unfold w32; simp; omega
  have h2 : w32 d = true := by unfold w32; simp; omega
  unfold ok4 okO w8
  rw [h1, h2]
  simp [k0, k1]
  omega
theorem over4_good (s d t k i : Int) (n : Nat) (w : World) (hg : Pl.Ok4 s d t k i) (hn : n ≤ 320) : Calls Try.prog 45 #[.int .i64 s, .int .i64 d, .int .i64 k, .int .i64 n] w fun e w' => e = .returned (.tuple #[.int .i64 (val4 s d k n), .nilIface]) ∧ Ext w w' := by
  have := over4_any s d k n w
  rw [ok4_good hg hn] at this
  exact this
end Go.Proofs.Ytoaahiclmodcgaa
/- Opening a packet that may be: cross.Open6, cross.Open4, the document's Seg6, Seg4. Conditions: as each theorem states them. -/
namespace Go.Proofs.Ytoaahiclmodcgaa
open Go.RowKit
theorem seg_ret {w W1 : World} {R B : Nat} (V : Sg) {D : List Int} {a : Option Addr} {n c : Nat} (KR : Blk W1 R 47 #[.int .i64 0, .int .i64 0, .int .i64 0, .int .i64 0, .int .i64 0, .int .i64 0, .int .i64 0, .slice none 0 0]) (E : Ext w W1) (hR : w.heap.size ≤ R) (hB : R < B) (o : Own W1 B (.slice a n c) D) :
    (Instr.storeAt 47 (.pointer (some ⟨R, 0, none⟩)) (.agg (V.cells (.slice a n c)))).run Try.prog W1 = .ok () (W1.setRow R (V.cells (.slice a n c))) ∧ Blk (W1.setRow R (V.cells (.slice a n c))) R 47 (V.cells (.slice a n c)) ∧ Own (W1.setRow R (V.cells (.slice a n c))) w.heap.size (.slice a n c) D ∧ Ext w (W1.setRow R (V.cells (.slice a n c))) :=
  ⟨sto KR V a n c, KR.row _, (o.rowOff (fun j hj => by have := (o.lt j hj).1; omega) _).mono (by omega), E.row hR _⟩
theorem seg_retI {w W1 : World} {R : Nat} (V : Sg) {D : List Int} {a : Option Addr} {n c : Nat} (KR : Blk W1 R 47 #[.int .i64 0, .int .i64 0, .int .i64 0, .int .i64 0, .int .i64 0, .int .i64 0, .int .i64 0, .slice none 0 0]) (E : Ext w W1) (hR : w.heap.size ≤ R) (o : Ints .u8 W1 a n D) (ho : 0 < n → ∀ p, a = some p → p.block ≠ R) :
    (Instr.storeAt 47 (.pointer (some ⟨R, 0, none⟩)) (.agg (V.cells (.slice a n c)))).run Try.prog W1 = .ok () (W1.setRow R (V.cells (.slice a n c))) ∧ Blk (W1.setRow R (V.cells (.slice a n c))) R 47 (V.cells (.slice a n c)) ∧ Ints .u8 (W1.setRow R (V.cells (.slice a n c))) a n D ∧ Ext w (W1.setRow R (V.cells (.slice a n c))) :=
  ⟨sto KR V a n c, KR.row _, Ints.keepRow o R _ ho, E.row hR _⟩

set_option maxRecDepth 100000 in
set_option maxHeartbeats 4000000 in
theorem open6_any (p : P6) (a : Option Addr) (n c : Nat) (xs : List Int) (w : World) (hg : p.good = true) (hn : n ≤ 320) (hr : Ints .u8 w a n xs) (hb : Pl.IsB xs) (hnc : n ≤ c) (hc : a = none → c = 0) :
    Calls Try.prog 35 #[p.v (.slice a n c)] w (OpGot p.kind xs (val6 p.src p.dst p.kind n) w) := by
  have KP := (Blk.new w 55 (p.cells (.slice a n c))).alloc (.cells #[.int .i64 0, .int .i64 0, .int .i64 0, .int .i64 0, .int .i64 0, .int .i64 0, .int .i64 0, .slice none 0 0] 47)
  have KR := Blk.at (n := w.heap.size + 1) (w.alloc (.cells (p.cells (.slice a n c)) 55)) 47 #[.int .i64 0, .int .i64 0, .int .i64 0, .int .i64 0, .int .i64 0, .int .i64 0, .int .i64 0, .slice none 0 0] (by simp)
  have E0 : Ext w _ := ((Ext.refl w).alloc (.cells (p.cells (.slice a n c)) 55)).alloc (.cells #[.int .i64 0, .int .i64 0, .int .i64 0, .int .i64 0, .int .i64 0, .int .i64 0, .int .i64 0, .slice none 0 0] 47)
  have HO := Lib.hid (fun (W : World) => over6_good p n W hg hn)
  have HRD := Lib.hid (fun (W : World) (q : Ext w W) => read_any p.kind a n c xs (val6 p.src p.dst p.kind n) W (hr.ext q) hb hnc hc)
  unfold OpGot at HRD
  unfold OpGot
  generalize val6 p.src p.dst p.kind n = O at *
  generalize Pl.opV p.kind xs O = V at *
  generalize Pl.opQ p.kind xs O = Q at *
  generalize Pl.opD p.kind xs O = D at *
  clear hr hb hg
  unfold Six.v at HO
  go_enter Try.func35, Try.ntmps35
  go_upto_region 1 with (fail)
  refine at_worldE (fun W => Ext w W ∧ Blk W w.heap.size 55 (p.cells (.slice a n c)) ∧ Blk W (w.heap.size + 1) 47 #[.int .i64 0, .int .i64 0, .int .i64 0, .int .i64 0, .int .i64 0, .int .i64 0, .int .i64 0, .slice none 0 0]) ⟨E0, KP, KR⟩ ?_
  clear E0 KP KR
  rintro W1 ⟨E1, KP, KR⟩
  have ls := KP.p6src
  have lt := KP.p6dst
  obtain ⟨c16, c17, c18⟩ := KP.p6nums
  go_wp2_with ((apply load_by rfl _ _ rfl _ rfl); (focus (with_reducible assumption)))
  refine (HO.out _).mono ?_
  rintro e W2 ⟨rfl, q2⟩
  have E2 := E1.trans q2
  have KP2 := KP.ext q2
  have KR2 := KR.ext q2
  clear ls lt c16 c17 c18 E1 KP KR q2
  obtain ⟨c16, c17, c18⟩ := KP2.p6nums
  go_wp2_with fail
  refine (HRD.out _ E2).mono ?_
  rintro e W3 ⟨a3, n3, c3, rfl, o3, q3⟩
  obtain ⟨st, K3, o4, E4⟩ := seg_ret V (KR2.ext q3) (E2.trans q3) (Nat.le_succ _) KR2.lt o3
  have HO4 := Lib.hid o4
  have HE4 := Lib.hid E4
  clear c16 c17 c18 E2 KP2 KR2 q3 o3 o4 E4
  go_wp2_with ((apply store_by rfl _ _ _ rfl _ rfl); (focus (with_reducible assumption)); (focus rfl))
  refine bodyPost_ret (results_cell2 Try.results35 _ _ (w.heap.size + 1) 47 (V.cells (.slice a3 n3 c3)) _ rfl K3 Try.underlying47 rfl Try.sizeSeg) rfl ⟨a3, n3, c3, rfl, HO4.out, HE4.out⟩

end Go.Proofs.Ytoaahiclmodcgaa
/- Opening a packet that may be, as the document does: Seg6, Seg4. Conditions: as each theorem states them. -/
namespace Go.Proofs.Ytoaahiclmodcgaa
open Go.RowKit
/-- Bytes lie in no block that has no byte. -/
theorem Ints.off {w : World} {a : Option Addr} {n : Nat} {xs : List Int} {R : Nat} {t : TypeId} {cs : Array Value} (h : Ints .u8 w a n xs) (hR : Blk w R t cs) (hcs : ∀ v ∈ cs.toList, ∀ x, v ≠ .int .u8 x) (hn : 0 < n) : ∀ p, a = some p → p.block ≠ R := by
  intro p hp hb
  obtain ⟨b, off, rfl, _, hc⟩ := h.at hn
  cases hp
  have hb' : b = R := hb
  subst hb'
  have h0 := hc 0 hn
  rw [hR.cells] at h0
  have hm : (.int .u8 (xs.getD 0 0) : Value) ∈ cs.toList := by
    rw [← Array.getElem?_toList] at h0
    exact List.mem_of_getElem? h0
  exact hcs _ hm _ rfl
theorem z8_off : ∀ v ∈ (#[.int .i64 0, .int .i64 0, .int .i64 0, .int .i64 0, .int .i64 0, .int .i64 0, .int .i64 0, .slice none 0 0] : Array Value).toList, ∀ x, v ≠ .int .u8 x := by
  intro v hv x
  simp only [List.mem_cons, List.not_mem_nil, or_false] at hv
  rcases hv with rfl | rfl | rfl | rfl | rfl | rfl | rfl | rfl <;> intro h <;> cases h

end Go.Proofs.Ytoaahiclmodcgaa
/- The document's SixAt: an address of sixteen bytes. Conditions: as each theorem states them. -/
namespace Go.Proofs.Ytoaahiclmodcgaa
open Go.RowKit
theorem sixAt_take (l : List Int) : sixAt (l.take 16) = sixAt l := by
  unfold sixAt Pl.at2
  simp [List.getD]
end Go.Proofs.Ytoaahiclmodcgaa
/- A part of bytes, under one name. Conditions: as each lemma states them. -/
namespace Go.Proofs.Ytoaahiclmodcgaa
open Go.RowKit
theorem Try.elemBytes : Try.prog.elem 41 = 5 := by kernel_rfl
theorem Try.sizeByte : ∀ w : World, (sizeOf 5).run Try.prog w = .ok 1 w := fun w => by kernel_rfl

/-- x[lo:hi]. -/
theorem slice_bytes (a : Option Addr) (n c lo len : Nat) (i j : Int) (hi0 : i = lo) (hj0 : j = ((lo + len : Nat) : Int)) (hhi : lo + len ≤ n) (hnc : n ≤ c) (hn : a = none → c = 0) :
    ∃ AA cc, (∀ (w : World) (xs : List Int), Ints .u8 w a n xs → Ints .u8 w AA len ((xs.drop lo).take len)) ∧ (AA = none → cc = 0) ∧ len ≤ cc ∧
      ∀ W : World, (Instr.slice 41 (.slice a n c) (some (.int .i64 i)) (some (.int .i64 j)) none).run Try.prog W = .ok (.slice AA len cc) W := by
  subst hi0 hj0
  refine ⟨if c = lo then a else a.map (·.add (lo * 1)), c - lo, fun w xs h => ?_, fun h => ?_, by omega, fun W => ?_⟩
  · by_cases hz : len = 0
    · exact ⟨by rw [List.length_take, List.length_drop, h.1]; omega, .inl hz⟩
    · obtain ⟨b, off, rfl, _, _⟩ := h.at (by omega)
      rw [if_neg (by omega), Option.map_some, Addr.add_lit, Nat.mul_one]
      have := h.sub lo (lo + len) (by omega) hhi
      rwa [Nat.add_sub_cancel_left] at this
  · cases a with
    | none => have := hn rfl; omega
    | some p =>
      by_cases hc : c = lo
      · rw [if_pos hc] at h; cases h
      · rw [if_neg hc] at h; cases h
  · rw [run_slice_lh W 41 a n c (by rw [Try.elemBytes]; exact Try.underlying41) .i64 .i64 (lo : Int) ((lo + len : Nat) : Int) (by omega) (by omega) (by omega), Try.elemBytes, Try.sizeByte]
    simp only [Result.andThen_ok, sliced, Int.toNat_natCast, Nat.add_sub_cancel_left]
/-- What is owned, read where it is handed on; nil has no room. -/
theorem Own.readn {w : World} {B : Nat} {v : Value} {xs : List Int} (h : Own w B v xs) : ∃ a n cap, v = .slice a n cap ∧ n ≤ cap ∧ Ints .u8 w a n xs ∧ (a = none → cap = 0) := by
  have h0 := h
  rcases h.2 with ⟨rfl, hn⟩ | ⟨g, cap, cur, rfl, _⟩
  · obtain rfl : xs = [] := List.length_eq_zero_iff.1 hn
    exact ⟨none, 0, 0, rfl, Nat.le_refl _, Ints.nil, fun _ => rfl⟩
  · obtain ⟨a, n, cap', hv, hc, hi⟩ := h0.read
    cases hv
    exact ⟨_, _, _, rfl, hc, hi, fun h => by cases h⟩
theorem only_trans {a b c : World} {g : Nat} (h : a.grownBy b (some g)) (k : b.grownBy c (some g)) : a.grownBy c (some g) :=
  ⟨k.os.trans h.os, k.tape.trans h.tape, k.output.trans h.output, Nat.le_trans h.size k.size, fun i hi hne => (k.block i (Nat.lt_of_lt_of_le hi h.size) hne).trans (h.block i hi hne)⟩
theorem only_ext {a b c : World} {g : Nat} (h : a.grownBy b (some g)) (k : Ext b c) : a.grownBy c (some g) := only_trans h ⟨k.os, k.tape, k.output, k.size, fun i hi _ => k.block i hi⟩
theorem getD_all {xs : List Int} {P : Int → Prop} (h : ∀ x ∈ xs, P x) (h0 : P 0) (k : Nat) : P (xs.getD k 0) := by
  by_cases hk : k < xs.length
  · rw [List.getD_eq_getElem?_getD, List.getElem?_eq_getElem hk]
    exact h _ (List.getElem_mem hk)
  · rw [List.getD_eq_getElem?_getD, List.getElem?_eq_none (by omega)]
    exact h0
end Go.Proofs.Ytoaahiclmodcgaa
/- The document's Decoded6. Conditions: as each theorem states them. -/
namespace Go.Proofs.Ytoaahiclmodcgaa
open Go.RowKit
theorem Ext.drawn {a b w : World} (h : Ext a b) (e : ∃ q, w = b.drewN q) : Ext a w ∧ Ext b w := by
  obtain ⟨q, rfl⟩ := e
  exact ⟨h.drewN q, (Ext.refl b).drewN q⟩
theorem sto6l {w : World} {R : Nat} (k : Blk w R 55 #[.int .i64 0, .int .i64 0, .int .i64 0, .int .i64 0, .int .i64 0, .int .i64 0, .int .i64 0, .int .i64 0, .int .i64 0, .int .i64 0, .int .i64 0, .int .i64 0, .int .i64 0, .int .i64 0, .int .i64 0, .int .i64 0, .int .i64 0, .int .i64 0, .slice none 0 0]) (p : P6) (a : Option Addr) (n c : Nat) :
    (Instr.storeAt 55 (.pointer (some ⟨R, 0, none⟩)) (.agg (p.cells (.slice a n c)))).run Try.prog w = .ok () (w.setRow R (p.cells (.slice a n c))) := k.store rfl Try.sizeP6 (p.one a n c)

/-- What Decoded6 gives of bytes that are no packet. -/
def RBad6 (e : Ending) : Prop := e = .returned (.tuple #[.agg #[.int .i64 0, .int .i64 0, .int .i64 0, .int .i64 0, .int .i64 0, .int .i64 0, .int .i64 0, .int .i64 0, .int .i64 0, .int .i64 0, .int .i64 0, .int .i64 0, .int .i64 0, .int .i64 0, .int .i64 0, .int .i64 0, .int .i64 0, .int .i64 0, .slice none 0 0], .int .i64 5])

end Go.Proofs.Ytoaahiclmodcgaa
/- Closing a packet: cross.Close4, cross.Close6. Conditions: as each theorem states them (the segment and the addresses may be). -/
namespace Go.Proofs.Ytoaahiclmodcgaa
open Go.RowKit
namespace Pl
theorem segSize_le (k : Int) : segSize k ≤ 20 := by unfold segSize; split <;> omega
end Pl
/-- What stands over a segment of n bytes between fours. -/
def ov4 (s : Sg) (src dst : Int) (n : Nat) : Int := val4 src dst s.kind ((Pl.segSize s.kind : Int) + (n : Int))
def ov6 (s : Sg) (src dst : Six) (n : Nat) : Int := val6 src dst s.kind ((Pl.segSize s.kind : Int) + (n : Int))
def body4 (s : Sg) (src dst : Int) (xs : List Int) : List Int := Pl.segBytes s (Pl.segCheck s (ov4 s src dst xs.length) xs) xs
def body6 (s : Sg) (src dst : Six) (xs : List Int) : List Int := Pl.segBytes s (Pl.segCheck s (ov6 s src dst xs.length) xs) xs
theorem ok4_seg {s : Sg} {src dst : Int} {n : Nat} (hok : Pl.SegOk s n) (hs : 0 ≤ src ∧ src < 4294967296) (hd : 0 ≤ dst ∧ dst < 4294967296) : ok4 src dst s.kind ((Pl.segSize s.kind : Int) + (n : Int)) = true := by
  have h1 : w32 src = true := by unfold w32; simp; omega
  have h2 : w32 dst = true := by unfold w32; simp; omega
  have h3 := Pl.segSize_le s.kind
  have h4 := hok.2.2.2.2.2.2.2.2
  have h5 := hok.1
  unfold ok4 okO w8
  rw [h1, h2]
  simp
  omega
theorem ok6_seg {s : Sg} {src dst : Six} {n : Nat} (hok : Pl.SegOk s n) (hs : okS src = true) (hd : okS dst = true) : ok6 src dst s.kind ((Pl.segSize s.kind : Int) + (n : Int)) = true := by
  have h3 := Pl.segSize_le s.kind
  have h4 := hok.2.2.2.2.2.2.2.2
  have h5 := hok.1
  unfold ok6 okO w8
  rw [hs, hd]
  simp
  omega
theorem over4_seg (s : Sg) (src dst : Int) (n : Nat) (w : World) (hok : Pl.SegOk s n) (hs : 0 ≤ src ∧ src < 4294967296) (hd : 0 ≤ dst ∧ dst < 4294967296) :
    Calls Try.prog 45 #[.int .i64 src, .int .i64 dst, .int .i64 s.kind, .int .i64 ((Pl.segSize s.kind : Int) + (n : Int))] w fun e w' => e = .returned (.tuple #[.int .i64 (ov4 s src dst n), .nilIface]) ∧ Ext w w' := by
  have := over4_any src dst s.kind ((Pl.segSize s.kind : Int) + (n : Int)) w
  rw [ok4_seg hok hs hd] at this
  exact this
theorem over6_seg (s : Sg) (src dst : Six) (n : Nat) (w : World) (hok : Pl.SegOk s n) (hs : okS src = true) (hd : okS dst = true) :
    Calls Try.prog 42 #[src.v, dst.v, .int .i64 s.kind, .int .i64 ((Pl.segSize s.kind : Int) + (n : Int))] w fun e w' => e = .returned (.tuple #[.int .i64 (ov6 s src dst n), .nilIface]) ∧ Ext w w' := by
  have := over6_any src dst s.kind ((Pl.segSize s.kind : Int) + (n : Int)) w
  rw [ok6_seg hok hs hd] at this
  exact this
theorem enc_seg (s : Sg) (a : Option Addr) (n c : Nat) (xs : List Int) (over : Int) (w : World) (hok : Pl.SegOk s n) (hr : Ints .u8 w a n xs) (hb : Pl.IsB xs) (ho : Pl.Word over) :
    Calls Try.prog 46 #[s.v (.slice a n c), .int .i64 over] w fun e w' => ∃ a' n' c', e = .returned (.tuple #[.slice a' n' c', .nilIface]) ∧ Own w' w.heap.size (.slice a' n' c') (Pl.segBytes s (Pl.segCheck s over xs) xs) ∧ Ext w w' := by
  have hF : Pl.encF s over xs.length = 0 := Pl.encF_ok (by rw [hr.len]; exact hok) ho
  refine (sEncode_any s a n c xs over w hr hb).mono ?_
  rintro e w' ⟨v, rfl, o, q⟩
  unfold Pl.encB at o
  rw [hF, if_pos rfl] at o
  rw [hF]
  obtain ⟨a', n', c', rfl, _, _⟩ := o.read
  exact ⟨a', n', c', rfl, o, q⟩
set_option maxRecDepth 100000 in
set_option maxHeartbeats 4000000 in
theorem close4_any (s : Sg) (src dst ttl : Int) (a : Option Addr) (n c : Nat) (xs : List Int) (w : World) (hok : Pl.SegOk s n) (hs : 0 ≤ src ∧ src < 4294967296) (hd : 0 ≤ dst ∧ dst < 4294967296) (hr : Ints .u8 w a n xs) (hb : Pl.IsB xs) :
    Calls Try.prog 36 #[s.v (.slice a n c), .int .i64 src, .int .i64 dst, .int .i64 ttl] w fun e w' => ∃ a' n' c', e = .returned (.tuple #[pk4 src dst ttl s.kind 0 (.slice a' n' c'), .nilIface]) ∧ Own w' w.heap.size (.slice a' n' c') (body4 s src dst xs) ∧ Ext w w' := by
  have KS := (Blk.new w 47 (s.cells (.slice a n c))).alloc (.cells (c4 0 0 0 0 0 (.slice none 0 0)) 58)
  have KR := Blk.at (n := w.heap.size + 1) (w.alloc (.cells (s.cells (.slice a n c)) 47)) 58 (c4 0 0 0 0 0 (.slice none 0 0)) (by simp)
  have E0 : Ext w _ := ((Ext.refl w).alloc (.cells (s.cells (.slice a n c)) 47)).alloc (.cells (c4 0 0 0 0 0 (.slice none 0 0)) 58)
  have HOK := Lib.hid hok
  have HR := Lib.hid hr
  have HB := Lib.hid hb
  have HL := Lib.hid hr.len
  have HO4 := Lib.hid (fun (W : World) => over4_seg s src dst n W hok hs hd)
  have h3 := Pl.segSize_le s.kind
  have h4 := hok.2.2.2.2.2.2.2.2
  have HBD := Lib.hid (show Pl.segBytes s (Pl.segCheck s (ov4 s src dst n) xs) xs = body4 s src dst xs by unfold body4; rw [HL.out])
  have HWO := Lib.hid (show Pl.Word (ov4 s src dst n) from val4_word)
  generalize ov4 s src dst n = O at *
  obtain ⟨c0, c1, c2, c3, c4', c5, c6, c7⟩ := KS.sg
  clear c1 c2 c3 c4' c5 c6 hok hr hb
  go_enter Try.func36, Try.ntmps36
  go_wp2_with fail
  refine (head_any s.kind _ HOK.out.1).mono ?_
  rintro e w' ⟨rfl, rfl⟩
  generalize Pl.segSize s.kind = Z at *
  have ew : IntKind.i64.wrap ((Z : Int) + (n : Int)) = (Z : Int) + (n : Int) := IntWalk.i64_in _ (by omega)
  go_wp2_with fail
  refine (HO4.out _).mono ?_
  rintro e W2 ⟨rfl, q2⟩
  have K2 := KS.ext q2
  have KR2 := KR.ext q2
  have E2 := E0.trans q2
  have ld := K2.seg
  clear c0 c7 KS KR E0 q2
  go_wp2_with ((apply load_by rfl _ _ rfl _ rfl); (focus (with_reducible assumption)))
  refine (enc_seg s a n c xs O W2 HOK.out (HR.out.ext E2) HB.out HWO.out).mono ?_
  rintro e W3 ⟨a3, n3, d3, rfl, o3, q3⟩
  rw [HBD.out] at o3
  have K3 := K2.ext q3
  have KR3 := KR2.ext q3
  have E3 := E2.trans q3
  have hz2 := KR2.lt
  obtain ⟨c0, c1, c2, c3, c4', c5, c6, c7⟩ := K3.sg
  have st := sto4 KR3 src dst ttl s.kind 0 a3 n3 d3
  have KF := KR3.row (c4 src dst ttl s.kind 0 (.slice a3 n3 d3))
  have o4 := (o3.rowOff (k := w.heap.size + 1) (fun j hj => by have := (o3.lt j hj).1; omega) (c4 src dst ttl s.kind 0 (.slice a3 n3 d3))).mono E2.size
  have E4 := E3.row (k := w.heap.size + 1) (Nat.le_succ _) (c4 src dst ttl s.kind 0 (.slice a3 n3 d3))
  have HO := Lib.hid o4
  have HE := Lib.hid E4
  clear c1 c2 c3 c4' c5 c6 c7 K2 KR2 E2 q3 o3 E3 K3 KR3 o4 E4 ld
  go_wp2_with ((apply store_by rfl _ _ _ rfl _ rfl); (focus (with_reducible assumption)); (focus rfl))
  refine bodyPost_ret (results_cell2 Try.results36 _ _ (w.heap.size + 1) 58 (c4 src dst ttl s.kind 0 (.slice a3 n3 d3)) _ rfl KF Try.underlying58 rfl Try.sizeP4) rfl ⟨a3, n3, d3, rfl, HO.out, HE.out⟩

end Go.Proofs.Ytoaahiclmodcgaa
/- The document's size, Packed4, Packed6. Conditions: as each theorem states them (the segment and the addresses may be). -/
namespace Go.Proofs.Ytoaahiclmodcgaa
open Go.RowKit
theorem Blk.ldi {w : World} {g : Nat} {t : TypeId} {cs : Array Value} (h : Blk w g t cs) (i : Nat) (x : Int) (hi : cs[i]? = some (.int .i64 x)) : (Instr.loadAt 3 (.pointer (some ⟨g, i, none⟩))).run Try.prog w = .ok (.int .i64 x) w := by
  have hc := (h.cells i).trans hi
  simp [Instr.loadAt, Instr.sureAddr, loadVar, isAgg, underlying, Try.underlying3, hc, Result.andThen]

end Go.Proofs.Ytoaahiclmodcgaa
/- cross.To4 and the document's Crossed4, of any packet. Conditions: as each theorem states them. -/
namespace Go.Proofs.Ytoaahiclmodcgaa
open Go.RowKit
/-- What is wrong with a packet that is to cross. -/
def x4Q (p : P6) (n : Nat) (xs : List Int) (src dst : Int) : Int :=
  if p.fault n ≠ 0 then p.fault n else if ¬ (w32 src = true ∧ w32 dst = true) then 1
  else if Pl.opQ p.kind xs (val6 p.src p.dst p.kind n) ≠ 0 then Pl.opQ p.kind xs (val6 p.src p.dst p.kind n) else if p.hop < 2 then 7 else 0
def zq (Q x : Int) : Int := if Q = 0 then x else 0
def x4B (p : P6) (xs : List Int) (src dst Q : Int) : List Int := if Q = 0 then body4 (Pl.decSeg p.kind xs) src dst (xs.drop (Pl.segSize p.kind)) else []
def x4c (p : P6) (src dst Q : Int) (v : Value) : Array Value := c4 (zq Q src) (zq Q dst) (zq Q (p.hop - 1)) (zq Q p.kind) 0 v
def X4Got (p : P6) (xs : List Int) (src dst Q : Int) (err : Value) (w : World) (e : Ending) (w' : World) : Prop :=
  ∃ a n c, e = .returned (.tuple #[.agg (x4c p src dst Q (.slice a n c)), err]) ∧ Own w' w.heap.size (.slice a n c) (x4B p xs src dst Q) ∧ Ext w w'
theorem x4_bad {p : P6} {xs : List Int} {src dst Q : Int} {err v : Value} {w w' : World} (hq : Q ≠ 0) (hv : v = err) (he : Ext w w') : X4Got p xs src dst Q err w (.returned (.tuple #[.agg (c4 0 0 0 0 0 (.slice none 0 0)), v])) w' := by
  subst hv
  refine ⟨none, 0, 0, ?_, ?_, he⟩
  · unfold x4c zq
    rw [if_neg hq, if_neg hq, if_neg hq, if_neg hq]
  · unfold x4B
    rw [if_neg hq]
    exact Own.nil _ _
theorem op_zero {k over : Int} {xs : List Int} (hb : Pl.IsB xs) (h : Pl.opQ k xs over = 0) : (k = 6 ∨ k = 17) ∧ Pl.opV k xs over = Pl.decSeg k xs ∧ Pl.opD k xs over = xs.drop (Pl.segSize k) ∧ Pl.SegOk (Pl.decSeg k xs) (xs.drop (Pl.segSize k)).length ∧ Pl.segQ k xs over = 0 := by
  have hv : Pl.opV k xs over = Pl.decSeg k xs := by unfold Pl.opV; rw [if_pos h]
  have hd : Pl.opD k xs over = xs.drop (Pl.segSize k) := by unfold Pl.opD; rw [if_pos h]
  have h' := h
  unfold Pl.opQ at h'
  split at h'
  · cases h'
  obtain ⟨h1, _, _, _, h5⟩ := Pl.segQ_zero hb h'
  exact ⟨h1, hv, hd, h5, h'⟩
set_option maxRecDepth 100000 in
set_option maxHeartbeats 4000000 in
theorem to4_any (p : P6) (a : Option Addr) (n c : Nat) (xs : List Int) (src dst : Int) (w : World) (hr : Ints .u8 w a n xs) (hb : Pl.IsB xs) (hnc : n ≤ c) (hc : a = none → c = 0) :
    Calls Try.prog 17 #[p.v (.slice a n c), .int .i64 src, .int .i64 dst] w (X4Got p xs src dst (x4Q p n xs src dst) (erv (x4Q p n xs src dst)) w) := by
  have KP := (Blk.new w 55 (p.cells (.slice a n c))).alloc (.cells (c4 0 0 0 0 0 (.slice none 0 0)) 58)
  have KR := Blk.at (n := w.heap.size + 1) (w.alloc (.cells (p.cells (.slice a n c)) 55)) 58 (c4 0 0 0 0 0 (.slice none 0 0)) (by simp)
  have E0 : Ext w _ := ((Ext.refl w).alloc (.cells (p.cells (.slice a n c)) 55)).alloc (.cells (c4 0 0 0 0 0 (.slice none 0 0)) 58)
  have HR := Lib.hid hr
  have HB := Lib.hid hb
  have HC := Lib.hid hc
  obtain ⟨Q, hQ⟩ : ∃ Q, x4Q p n xs src dst = Q := ⟨_, rfl⟩
  rw [hQ]
  have HQ := Lib.hid hQ
  obtain ⟨F, hF⟩ : ∃ F, p.fault n = F := ⟨_, rfl⟩
  have HF := Lib.hid hF
  have HCK := Lib.hid (fun W => hF ▸ check6p_any p a n c W)
  clear hr hb hQ hF hc
  go_enter Try.func17, Try.ntmps17
  go_upto_region 1 with (fail)
  refine at_worldE (fun W => Ext w W ∧ Blk W w.heap.size 55 (p.cells (.slice a n c)) ∧ Blk W (w.heap.size + 1) 58 (c4 0 0 0 0 0 (.slice none 0 0))) ⟨E0, KP, KR⟩ ?_
  clear E0 KP KR
  rintro W1 ⟨E1, KP, KR⟩
  have ld := KP.p6
  go_wp2_with ((apply load_by rfl _ _ rfl _ rfl); (focus (with_reducible assumption)))
  refine (HCK.out W1).mono ?_
  rintro e W2 ⟨rfl, q2⟩
  replace E1 := E1.trans q2
  replace KP := KP.ext q2
  replace KR := KR.ext q2
  clear ld q2
  by_cases hf : F = 0
  case neg =>
    have hq : Q = F := by have := HQ.out; unfold x4Q at this; rw [HF.out, if_pos hf] at this; exact this.symm
    subst hq
    rw [erv_ne hf]
    have st := sto4 KR 0 0 0 0 0 none 0 0
    have KF := KR.row (c4 0 0 0 0 0 (.slice none 0 0))
    have HE := Lib.hid (E1.row (k := w.heap.size + 1) (Nat.le_succ _) (c4 0 0 0 0 0 (.slice none 0 0)))
    have HN := Lib.hid hf
    unfold errv
    clear hf E1 KP KR
    go_wp2_with ((apply store_by rfl _ _ _ rfl _ rfl); (focus (with_reducible assumption)); (focus rfl))
    refine bodyPost_ret (results_cell2 Try.results17 _ _ (w.heap.size + 1) 58 (c4 0 0 0 0 0 (.slice none 0 0)) _ rfl KF Try.underlying58 rfl Try.sizeP4) rfl (x4_bad HN.out (erv_ne HN.out).symm HE.out)
  subst hf
  rw [erv_zero]
  obtain ⟨hg, hn⟩ := P6.fault_zero HF.out
  have HG := Lib.hid hg
  clear hg
  have hQ2 : (if ¬ (w32 src = true ∧ w32 dst = true) then 1 else if Pl.opQ p.kind xs (val6 p.src p.dst p.kind n) ≠ 0 then Pl.opQ p.kind xs (val6 p.src p.dst p.kind n) else if p.hop < 2 then 7 else 0) = Q := by
    have := HQ.out
    unfold x4Q at this
    rw [HF.out, if_neg (by simp)] at this
    exact this
  have HQ2 := Lib.hid hQ2
  clear hQ2 HQ
  cases hs : w32 src
  case false =>
    have hq : Q = 1 := by have := HQ2.out; rw [if_pos (by simp [hs])] at this; exact this.symm
    subst hq
    have st := sto4 KR 0 0 0 0 0 none 0 0
    have KF := KR.row (c4 0 0 0 0 0 (.slice none 0 0))
    have HE := Lib.hid (E1.row (k := w.heap.size + 1) (Nat.le_succ _) (c4 0 0 0 0 0 (.slice none 0 0)))
    have HS := Lib.hid hs
    clear hs E1 KP KR
    go_wp2_with fail
    refine (is_any src W2).mono ?_
    rintro e w' ⟨rfl, rfl⟩
    rw [HS.out]
    go_wp2_with ((apply store_by rfl _ _ _ rfl _ rfl); (focus (with_reducible assumption)); (focus rfl))
    refine bodyPost_ret (results_cell2 Try.results17 _ _ (w.heap.size + 1) 58 (c4 0 0 0 0 0 (.slice none 0 0)) _ rfl KF Try.underlying58 rfl Try.sizeP4) rfl (x4_bad (by decide) rfl HE.out)
  have HS := Lib.hid hs
  cases hd : w32 dst
  case false =>
    have hq : Q = 1 := by have := HQ2.out; rw [if_pos (by simp [hd])] at this; exact this.symm
    subst hq
    have st := sto4 KR 0 0 0 0 0 none 0 0
    have KF := KR.row (c4 0 0 0 0 0 (.slice none 0 0))
    have HE := Lib.hid (E1.row (k := w.heap.size + 1) (Nat.le_succ _) (c4 0 0 0 0 0 (.slice none 0 0)))
    have HD := Lib.hid hd
    clear hs hd E1 KP KR
    go_wp2_with fail
    refine (is_any src W2).mono ?_
    rintro e w' ⟨rfl, rfl⟩
    rw [HS.out]
    go_wp2_with fail
    refine (is_any dst W2).mono ?_
    rintro e w' ⟨rfl, rfl⟩
    rw [HD.out]
    go_wp2_with ((apply store_by rfl _ _ _ rfl _ rfl); (focus (with_reducible assumption)); (focus rfl))
    refine bodyPost_ret (results_cell2 Try.results17 _ _ (w.heap.size + 1) 58 (c4 0 0 0 0 0 (.slice none 0 0)) _ rfl KF Try.underlying58 rfl Try.sizeP4) rfl (x4_bad (by decide) rfl HE.out)
  have HD := Lib.hid hd
  have hQ3 : (if Pl.opQ p.kind xs (val6 p.src p.dst p.kind n) ≠ 0 then Pl.opQ p.kind xs (val6 p.src p.dst p.kind n) else if p.hop < 2 then 7 else 0) = Q := by
    have := HQ2.out
    rw [if_neg (by simp [hs, hd])] at this
    exact this
  have HQ3 := Lib.hid hQ3
  clear hs hd hQ3 HQ2
  have ld := KP.p6
  go_wp2_with fail
  refine (is_any src W2).mono ?_
  rintro e w' ⟨rfl, rfl⟩
  rw [HS.out]
  go_wp2_with fail
  refine (is_any dst W2).mono ?_
  rintro e w' ⟨rfl, rfl⟩
  rw [HD.out]
  go_wp2_with ((apply load_by rfl _ _ rfl _ rfl); (focus (with_reducible assumption)))
  refine (open6_any p a n c xs W2 HG.out hn (HR.out.ext E1) HB.out hnc HC.out).mono ?_
  have HZ := Lib.hid (fun h => op_zero (k := p.kind) (over := val6 p.src p.dst p.kind n) HB.out h)
  generalize val6 p.src p.dst p.kind n = O at *
  obtain ⟨P, hP⟩ : ∃ P, Pl.opQ p.kind xs O = P := ⟨_, rfl⟩
  obtain ⟨V, hV⟩ : ∃ V, Pl.opV p.kind xs O = V := ⟨_, rfl⟩
  obtain ⟨D, hD⟩ : ∃ D, Pl.opD p.kind xs O = D := ⟨_, rfl⟩
  unfold OpGot
  rw [hP, hV, hD]
  rw [hP] at HZ HQ3
  rw [hV, hD] at HZ
  clear hP hV hD
  rintro e W3 ⟨a3, n3, c3, rfl, o3, q3⟩
  have KA := Blk.new W3 47 #[.int .i64 0, .int .i64 0, .int .i64 0, .int .i64 0, .int .i64 0, .int .i64 0, .int .i64 0, .slice none 0 0]
  have st := sto KA V a3 n3 c3
  have KB := KA.row (V.cells (.slice a3 n3 c3))
  have E3 := E1.trans q3
  have hs3 := E3.size
  have hq3 := q3.size
  have hkp := KP.lt
  have hkr := KR.lt
  have E4 := (E3.alloc (.cells #[.int .i64 0, .int .i64 0, .int .i64 0, .int .i64 0, .int .i64 0, .int .i64 0, .int .i64 0, .slice none 0 0] 47)).row hs3 (V.cells (.slice a3 n3 c3))
  have KP4 := ((KP.ext q3).alloc (.cells #[.int .i64 0, .int .i64 0, .int .i64 0, .int .i64 0, .int .i64 0, .int .i64 0, .int .i64 0, .slice none 0 0] 47)).farRow (show w.heap.size ≠ W3.heap.size by omega) (V.cells (.slice a3 n3 c3))
  have KR4 := ((KR.ext q3).alloc (.cells #[.int .i64 0, .int .i64 0, .int .i64 0, .int .i64 0, .int .i64 0, .int .i64 0, .int .i64 0, .slice none 0 0] 47)).farRow (show w.heap.size + 1 ≠ W3.heap.size by omega) (V.cells (.slice a3 n3 c3))
  have o4 := (o3.ext ((Ext.refl W3).alloc (.cells #[.int .i64 0, .int .i64 0, .int .i64 0, .int .i64 0, .int .i64 0, .int .i64 0, .int .i64 0, .slice none 0 0] 47))).rowOff (k := W3.heap.size) (fun j hj => by have := (o3.lt j hj).2; omega) (V.cells (.slice a3 n3 c3))
  clear KA E3 q3 o3 E1 KP KR ld
  by_cases hp : P = 0
  case neg =>
    have hq : Q = P := by have := HQ3.out; rw [if_pos hp] at this; exact this.symm
    subst hq
    rw [erv_ne hp]
    have s2 := sto4 KR4 0 0 0 0 0 none 0 0
    have KF := KR4.row (c4 0 0 0 0 0 (.slice none 0 0))
    have HE := Lib.hid (E4.row (k := w.heap.size + 1) (Nat.le_succ _) (c4 0 0 0 0 0 (.slice none 0 0)))
    have HN := Lib.hid hp
    unfold errv
    clear hp E4 KP4 KR4 KB o4
    go_wp2_with ((apply store_by rfl _ _ _ rfl _ rfl); (focus (with_reducible assumption)); (focus rfl))
    refine bodyPost_ret (results_cell2 Try.results17 _ _ (w.heap.size + 1) 58 (c4 0 0 0 0 0 (.slice none 0 0)) _ rfl KF Try.underlying58 rfl Try.sizeP4) rfl (x4_bad HN.out (erv_ne HN.out).symm HE.out)
  have hQ4 : (if p.hop < 2 then 7 else 0) = Q := by have := HQ3.out; rw [if_neg (by simpa using hp)] at this; exact this
  obtain ⟨hk, hVV, hDD, hok, _⟩ := HZ.out hp
  subst hp
  rw [erv_zero]
  obtain ⟨c16, c17, c18⟩ := KP4.p6nums
  have HK := Lib.hid hk
  clear hk c17 c18 HZ HQ3
  by_cases hh : p.hop < 2
  case pos =>
    have hq : Q = 7 := by rw [if_pos hh] at hQ4; exact hQ4.symm
    subst hq
    have s2 := sto4 KR4 0 0 0 0 0 none 0 0
    have KF := KR4.row (c4 0 0 0 0 0 (.slice none 0 0))
    have HE := Lib.hid (E4.row (k := w.heap.size + 1) (Nat.le_succ _) (c4 0 0 0 0 0 (.slice none 0 0)))
    clear hQ4 E4 KP4 KR4 KB o4 hVV hDD hok
    go_wp2_with ((apply store_by rfl _ _ _ rfl _ rfl); (focus (with_reducible assumption)); (focus rfl))
    refine bodyPost_ret (results_cell2 Try.results17 _ _ (w.heap.size + 1) 58 (c4 0 0 0 0 0 (.slice none 0 0)) _ rfl KF Try.underlying58 rfl Try.sizeP4) rfl (x4_bad (by decide) rfl HE.out)
  have hq : Q = 0 := by rw [if_neg hh] at hQ4; exact hQ4.symm
  subst hq
  obtain ⟨_, _, ⟨_, hhb⟩, _⟩ := P6.good_all HG.out
  have ew : IntKind.i64.wrap (p.hop - 1) = p.hop - 1 := IntWalk.i64_in _ (by omega)
  have lv := KB.seg
  obtain ⟨_, _, _, hv4, _, r4⟩ := o4.read
  cases hv4
  have hDl := r4.len
  have hok' : Pl.SegOk V n3 := by rw [hVV, ← hDl, hDD]; exact hok
  have hkV : V.kind = p.kind := by rw [hVV]; exact Pl.decSeg_kind _ _
  have hBody : body4 V src dst D = x4B p xs src dst 0 := by unfold x4B; rw [if_pos rfl, hVV, hDD]
  have hID : Pl.IsB D := by rw [hDD]; exact HB.out.drop _
  have HCL := Lib.hid (close4_any V src dst (p.hop - 1) a3 n3 c3 D _ hok' (w32_yes HS.out) (w32_yes HD.out) r4 hID)
  have HBO := Lib.hid hBody
  have HKV := Lib.hid hkV
  clear hQ4 hVV hDD hok r4 hDl hok' hkV hBody hID o4
  go_wp2_with (first | ((apply load_by rfl _ _ rfl _ rfl); (focus (with_reducible assumption))) | ((apply store_by rfl _ _ _ rfl _ rfl); (focus (with_reducible assumption)); (focus rfl)))
  refine HCL.out.mono ?_
  rintro e W5 ⟨a5, n5, c5, rfl, o5, q5⟩
  rw [HKV.out]
  rw [HBO.out] at o5
  have KR5 := KR4.ext q5
  have E5 := E4.trans q5
  have hsz := E4.size
  have hkr4 := KR4.lt
  have s5 := sto4 KR5 src dst (p.hop - 1) p.kind 0 a5 n5 c5
  have KF := KR5.row (c4 src dst (p.hop - 1) p.kind 0 (.slice a5 n5 c5))
  have HO := Lib.hid ((o5.rowOff (k := w.heap.size + 1) (fun j hj => by have := (o5.lt j hj).1; omega) (c4 src dst (p.hop - 1) p.kind 0 (.slice a5 n5 c5))).mono hsz)
  have HE := Lib.hid (E5.row (k := w.heap.size + 1) (Nat.le_succ _) (c4 src dst (p.hop - 1) p.kind 0 (.slice a5 n5 c5)))
  clear HCL o5 q5 KR5 E5 KR4 KP4 KB E4 lv st c16 ew
  unfold pk4
  go_wp2_with ((apply store_by rfl _ _ _ rfl _ rfl); (focus (with_reducible assumption)); (focus rfl))
  refine bodyPost_ret (results_cell2 Try.results17 _ _ (w.heap.size + 1) 58 (c4 src dst (p.hop - 1) p.kind 0 (.slice a5 n5 c5)) _ rfl KF Try.underlying58 rfl Try.sizeP4) rfl ⟨a5, n5, c5, rfl, HO.out, HE.out⟩
end Go.Proofs.Ytoaahiclmodcgaa
/- The document's Crossed4, of any packet. Conditions: as each theorem states them. -/
namespace Go.Proofs.Ytoaahiclmodcgaa
open Go.RowKit
end Go.Proofs.Ytoaahiclmodcgaa
/- ip4: exact contracts of Check, of Encode where it refuses, of Decode. Conditions: as each theorem states them. -/
namespace Go.Proofs.Ytoaahiclmodcgaa
open Go.RowKit
namespace Pl
theorem take_getD4 (xs : List Int) : ∀ n, n ≤ xs.length → xs.take n = (List.range n).map (fun i => xs.getD i 0)
  | 0, _ => by simp
  | n + 1, h => by
    rw [take_snoc xs n (by omega), take_getD4 xs n (by omega), List.range_succ, List.map_append]
    rfl
theorem cat2 {a b : Int} (hb : 0 ≤ b ∧ b ≤ 255) {x : Int} : (x / 256 = a ∧ x % 256 = b) ↔ a * 256 + b = x := by omega
theorem four_at4 {xs : List Int} (hb : IsB xs) (i : Nat) : four (at4 xs i) = [xs.getD i 0, xs.getD (i + 1) 0, xs.getD (i + 2) 0, xs.getD (i + 3) 0] := by
  have h0 := hb.getD i
  have h1 := hb.getD (i + 1)
  have h2 := hb.getD (i + 2)
  have h3 := hb.getD (i + 3)
  unfold four at4
  generalize xs.getD i 0 = x0 at *
  generalize xs.getD (i + 1) 0 = x1 at *
  generalize xs.getD (i + 2) 0 = x2 at *
  generalize xs.getD (i + 3) 0 = x3 at *
  simp only [List.cons.injEq, and_true]
  omega
/-- The numbers that bytes give, written. -/
theorem enc4_list {xs : List Int} (hb : IsB xs) (h0 : 20 ≤ xs.length) (C : Int) :
    head4 (at4 xs 12) (at4 xs 16) (xs.getD 8 0) (xs.getD 9 0) (at2 xs 4) ((xs.drop 20).length : Nat) C ++ xs.drop 20 =
      [69, 0, (xs.length : Int) / 256, (xs.length : Int) % 256, xs.getD 4 0, xs.getD 5 0, 64, 0, xs.getD 8 0, xs.getD 9 0, C / 256, C % 256, xs.getD 12 0, xs.getD 13 0, xs.getD 14 0, xs.getD 15 0, xs.getD 16 0, xs.getD 17 0, xs.getD 18 0, xs.getD 19 0] ++ xs.drop 20 := by
  have hl : (20 : Int) + ((xs.drop 20).length : Nat) = xs.length := by rw [List.length_drop]; omega
  have h4 := (cat2 (a := xs.getD 4 0) (x := at2 xs 4) (hb.getD 5)).2 rfl
  unfold head4
  rw [four_at4 hb 12, four_at4 hb 16]
  unfold first4
  rw [hl, h4.1, h4.2]
  rfl
theorem list20 {xs : List Int} (h0 : 20 ≤ xs.length) : xs = [xs.getD 0 0, xs.getD 1 0, xs.getD 2 0, xs.getD 3 0, xs.getD 4 0, xs.getD 5 0, xs.getD 6 0, xs.getD 7 0, xs.getD 8 0, xs.getD 9 0, xs.getD 10 0, xs.getD 11 0, xs.getD 12 0, xs.getD 13 0, xs.getD 14 0, xs.getD 15 0, xs.getD 16 0, xs.getD 17 0, xs.getD 18 0, xs.getD 19 0] ++ xs.drop 20 := by
  have ht := List.take_append_drop 20 xs
  rw [take_getD4 xs 20 h0] at ht
  exact ht.symm
theorem enc4_iff {xs : List Int} (hb : IsB xs) (h0 : 20 ≤ xs.length) (h1 : xs.length ≤ 340) :
    enc4 (at4 xs 12) (at4 xs 16) (xs.getD 8 0) (xs.getD 9 0) (at2 xs 4) (xs.drop 20) = xs ↔ (Shape4 xs ∧ at2 xs 10 = sum4 (at4 xs 12) (at4 xs 16) (xs.getD 8 0) (xs.getD 9 0) (at2 xs 4) ((xs.drop 20).length : Nat)) := by
  have hs := sum4_bd (at4 xs 12) (at4 xs 16) (xs.getD 8 0) (xs.getD 9 0) (at2 xs 4) ((xs.drop 20).length : Nat)
  unfold enc4
  generalize sum4 (at4 xs 12) (at4 xs 16) (xs.getD 8 0) (xs.getD 9 0) (at2 xs 4) ((xs.drop 20).length : Nat) = C at *
  rw [enc4_list hb h0 C]
  conv => lhs; rhs; rw [list20 h0]
  rw [List.append_cancel_right_eq]
  simp only [List.cons.injEq, and_true, true_and]
  unfold Shape4
  have B := fun i => hb.getD i
  have b0 := B 0
  have b1 := B 1
  have b6 := B 6
  have b7 := B 7
  have e0 := cat2 (x := 17664) (a := xs.getD 0 0) b1
  have e2 := cat2 (x := xs.length) (a := xs.getD 2 0) (B 3)
  have e6 := cat2 (x := 16384) (a := xs.getD 6 0) b7
  have e10 := cat2 (x := C) (a := xs.getD 10 0) (B 11)
  show _ ↔ (_ ∧ xs.getD 0 0 * 256 + xs.getD 1 0 = 17664 ∧ xs.getD 2 0 * 256 + xs.getD 3 0 = xs.length ∧ xs.getD 6 0 * 256 + xs.getD 7 0 = 16384) ∧ xs.getD 10 0 * 256 + xs.getD 11 0 = C
  rw [← e0, ← e2, ← e6, ← e10]
  constructor
  · rintro ⟨a0, a1, a2, a3, a6, a7, a10, a11⟩
    exact ⟨⟨⟨h0, h1⟩, ⟨by omega, by omega⟩, ⟨a2, a3⟩, ⟨by omega, by omega⟩⟩, a10, a11⟩
  · rintro ⟨⟨_, ⟨a0, a1⟩, ⟨a2, a3⟩, ⟨a6, a7⟩⟩, a10, a11⟩
    exact ⟨by omega, by omega, a2, a3, by omega, by omega, a10, a11⟩
theorem patch4_iff {xs : List Int} (hb : IsB xs) (h0 : 20 ≤ xs.length) (h1 : xs.length ≤ 340) :
    patch4 (enc4 (at4 xs 12) (at4 xs 16) (xs.getD 8 0) (xs.getD 9 0) (at2 xs 4) (xs.drop 20)) xs = xs ↔ Shape4 xs := by
  unfold enc4
  rw [enc4_list hb h0 _]
  have hp : (xs.drop 10).take 2 = [xs.getD 10 0, xs.getD 11 0] := by
    conv => lhs; rw [list20 h0]
    rfl
  unfold patch4
  rw [hp]
  show [69, 0, (xs.length : Int) / 256, (xs.length : Int) % 256, xs.getD 4 0, xs.getD 5 0, 64, 0, xs.getD 8 0, xs.getD 9 0, xs.getD 10 0, xs.getD 11 0, xs.getD 12 0, xs.getD 13 0, xs.getD 14 0, xs.getD 15 0, xs.getD 16 0, xs.getD 17 0, xs.getD 18 0, xs.getD 19 0] ++ xs.drop 20 = xs ↔ _
  conv => lhs; rhs; rw [list20 h0]
  rw [List.append_cancel_right_eq]
  simp only [List.cons.injEq, and_true, true_and]
  unfold Shape4
  have B := fun i => hb.getD i
  have b0 := B 0
  have b1 := B 1
  have b6 := B 6
  have b7 := B 7
  have e0 := cat2 (x := 17664) (a := xs.getD 0 0) b1
  have e2 := cat2 (x := xs.length) (a := xs.getD 2 0) (B 3)
  have e6 := cat2 (x := 16384) (a := xs.getD 6 0) b7
  show _ ↔ (_ ∧ xs.getD 0 0 * 256 + xs.getD 1 0 = 17664 ∧ xs.getD 2 0 * 256 + xs.getD 3 0 = xs.length ∧ xs.getD 6 0 * 256 + xs.getD 7 0 = 16384)
  rw [← e0, ← e2, ← e6]
  constructor
  · rintro ⟨a0, a1, a2, a3, a6, a7⟩
    exact ⟨⟨h0, h1⟩, ⟨by omega, by omega⟩, ⟨a2, a3⟩, ⟨by omega, by omega⟩⟩
  · rintro ⟨_, ⟨a0, a1⟩, ⟨a2, a3⟩, ⟨a6, a7⟩⟩
    exact ⟨by omega, by omega, a2, a3, by omega, by omega⟩
theorem ok4_iff {s d t k i : Int} : ok4b s d t k i = true ↔ Ok4 s d t k i := ⟨ok4b_yes, fun h => by
  cases he : ok4b s d t k i with
  | true => rfl
  | false => exact absurd h (ok4b_no he)⟩
end Pl
theorem fault4_zero {s d t k i : Int} {n : Nat} (h : fault4 s d t k i n = 0) : Pl.Ok4 s d t k i ∧ n ≤ 320 := by
  unfold fault4 at h
  by_cases hk : ok4b s d t k i = true
  · rw [if_pos hk] at h
    by_cases hn : n ≤ 320
    · exact ⟨ok4b_yes hk, hn⟩
    · rw [if_neg hn] at h; omega
  · rw [if_neg hk] at h; omega
end Go.Proofs.Ytoaahiclmodcgaa
/- cross.To6, of any packet. Conditions: as each theorem states them. -/
namespace Go.Proofs.Ytoaahiclmodcgaa
open Go.RowKit
/-- What is wrong with a packet of fours that is to cross. -/
def x6Q (s d t k i : Int) (n : Nat) (xs : List Int) (src dst : Six) : Int :=
  if fault4 s d t k i n ≠ 0 then fault4 s d t k i n else if ¬ (okS src = true ∧ okS dst = true) then 1
  else if Pl.opQ k xs (val4 s d k n) ≠ 0 then Pl.opQ k xs (val4 s d k n) else if t < 2 then 7 else 0
def x6B (k : Int) (xs : List Int) (src dst : Six) (Q : Int) : List Int := if Q = 0 then body6 (Pl.decSeg k xs) src dst (xs.drop (Pl.segSize k)) else []
def x6p (t k : Int) (src dst : Six) (Q : Int) : P6 := if Q = 0 then ⟨src, dst, t - 1, k⟩ else ⟨⟨0, 0, 0, 0, 0, 0, 0, 0⟩, ⟨0, 0, 0, 0, 0, 0, 0, 0⟩, 0, 0⟩
def X6Got (t k : Int) (xs : List Int) (src dst : Six) (Q : Int) (err : Value) (w : World) (e : Ending) (w' : World) : Prop :=
  ∃ a n c, e = .returned (.tuple #[.agg ((x6p t k src dst Q).cells (.slice a n c)), err]) ∧ Own w' w.heap.size (.slice a n c) (x6B k xs src dst Q) ∧ Ext w w'
theorem x6_bad {t k : Int} {xs : List Int} {src dst : Six} {Q : Int} {err v : Value} {w w' : World} (hq : Q ≠ 0) (hv : v = err) (he : Ext w w') : X6Got t k xs src dst Q err w (.returned (.tuple #[.agg #[.int .i64 0, .int .i64 0, .int .i64 0, .int .i64 0, .int .i64 0, .int .i64 0, .int .i64 0, .int .i64 0, .int .i64 0, .int .i64 0, .int .i64 0, .int .i64 0, .int .i64 0, .int .i64 0, .int .i64 0, .int .i64 0, .int .i64 0, .int .i64 0, .slice none 0 0], v])) w' := by
  subst hv
  refine ⟨none, 0, 0, ?_, ?_, he⟩
  · unfold x6p
    rw [if_neg hq]
    rfl
  · unfold x6B
    rw [if_neg hq]
    exact Own.nil _ _
end Go.Proofs.Ytoaahiclmodcgaa
/- Plain laws of crossing: there and back it is as it was; of the body nothing changes but the check. Conditions: as each lemma states them. -/
namespace Go.Proofs.Ytoaahiclmodcgaa
open Go.RowKit
/-- A packet that crosses: what is known of it. -/
structure Crossing (p : P6) (n : Nat) (xs : List Int) (src dst : Int) : Prop where
  good : p.good = true
  small : n ≤ 320
  src : 0 ≤ src ∧ src < 4294967296
  dst : 0 ≤ dst ∧ dst < 4294967296
  hop : 2 ≤ p.hop ∧ p.hop ≤ 255
  kind : p.kind = 6 ∨ p.kind = 17
  ok : Pl.SegOk (Pl.decSeg p.kind xs) (xs.drop (Pl.segSize p.kind)).length
  size : Pl.segSize p.kind + (xs.drop (Pl.segSize p.kind)).length = n
  enc : body6 (Pl.decSeg p.kind xs) p.src p.dst (xs.drop (Pl.segSize p.kind)) = xs
theorem crossing_of {p : P6} {n : Nat} {xs : List Int} {src dst : Int} (hl : xs.length = n) (hb : Pl.IsB xs) (h : x4Q p n xs src dst = 0) : Crossing p n xs src dst := by
  unfold x4Q at h
  split at h
  · rename_i h0; exact absurd h h0
  rename_i h0
  have hf : p.fault n = 0 := Decidable.byContradiction h0
  obtain ⟨hg, hn⟩ := P6.fault_zero hf
  split at h
  · cases h
  rename_i h1
  have hw : w32 src = true ∧ w32 dst = true := Decidable.byContradiction h1
  split at h
  · rename_i h2; exact absurd h h2
  rename_i h2
  have ho : Pl.opQ p.kind xs (val6 p.src p.dst p.kind n) = 0 := Decidable.byContradiction h2
  split at h
  · cases h
  rename_i h3
  obtain ⟨hk, _, _, hok, hq⟩ := op_zero hb ho
  obtain ⟨_, _, hi, he, _⟩ := Pl.segQ_zero hb hq
  obtain ⟨_, _, ⟨_, hh⟩, _⟩ := P6.good_all hg
  have hs : Pl.segSize p.kind + (xs.drop (Pl.segSize p.kind)).length = n := by
    have := hi.1.1
    rw [List.length_drop]
    omega
  refine ⟨hg, hn, w32_yes hw.1, w32_yes hw.2, ⟨by omega, hh⟩, hk, hok, hs, ?_⟩
  have hov : ov6 (Pl.decSeg p.kind xs) p.src p.dst (xs.drop (Pl.segSize p.kind)).length = val6 p.src p.dst p.kind n := by
    unfold ov6
    rw [Pl.decSeg_kind, ← hs]
    congr 1
  unfold body6
  rw [hov]
  exact he
section
variable {p : P6} {n : Nat} {xs : List Int} {src dst : Int}
/-- What came out. -/
def Crossing.body (p : P6) (xs : List Int) (src dst : Int) : List Int := body4 (Pl.decSeg p.kind xs) src dst (xs.drop (Pl.segSize p.kind))
theorem Crossing.body_eq : x4B p xs src dst 0 = Crossing.body p xs src dst := by unfold x4B; rw [if_pos rfl]; rfl
theorem Crossing.len (h : Crossing p n xs src dst) : (Crossing.body p xs src dst).length = n := by
  unfold Crossing.body body4
  rw [Pl.segBytes_length (by rw [Pl.decSeg_kind]; exact h.kind), Pl.decSeg_kind]
  exact h.size
theorem Crossing.isB (h : Crossing p n xs src dst) (hb : Pl.IsB xs) : Pl.IsB (Crossing.body p xs src dst) :=
  Pl.segBytes_isB h.ok (Pl.segCheck_bd _ _ _) (hb.drop _)
theorem set_getD {l : List Int} {i j : Nat} {x : Int} (h : j ≠ i) : (l.set i x).getD j 0 = l.getD j 0 := by
  rw [List.getD_eq_getElem?_getD, List.getElem?_set_ne (Ne.symm h), List.getD_eq_getElem?_getD]
theorem seg_far {s : Sg} {c c' : Int} {ds : List Int} (hk : s.kind = 6 ∨ s.kind = 17) {i : Nat} (h0 : i ≠ Pl.segAt s.kind) (h1 : i ≠ Pl.segAt s.kind + 1) : (Pl.segBytes s c ds).getD i 0 = (Pl.segBytes s c' ds).getD i 0 := by
  rw [← Pl.segBytes_set s c ds hk, ← Pl.segBytes_set s c' ds hk, set_getD h1, set_getD h0, set_getD h1, set_getD h0]
theorem Crossing.far (h : Crossing p n xs src dst) {i : Nat} (h0 : i ≠ Pl.segAt p.kind) (h1 : i ≠ Pl.segAt p.kind + 1) : xs.getD i 0 = (Crossing.body p xs src dst).getD i 0 := by
  have he := h.enc
  have hk : (Pl.decSeg p.kind xs).kind = p.kind := Pl.decSeg_kind _ _
  have hf := fun c c' => seg_far (s := Pl.decSeg p.kind xs) (c := c) (c' := c') (ds := xs.drop (Pl.segSize p.kind)) (by rw [hk]; exact h.kind) (i := i) (by rw [hk]; exact h0) (by rw [hk]; exact h1)
  have he' : xs.getD i 0 = (body6 (Pl.decSeg p.kind xs) p.src p.dst (xs.drop (Pl.segSize p.kind))).getD i 0 := by rw [he]
  rw [he']
  exact hf _ _
theorem Crossing.dec (h : Crossing p n xs src dst) : Pl.decSeg p.kind (Crossing.body p xs src dst) = Pl.decSeg p.kind xs := by
  have hk : (Pl.decSeg p.kind xs).kind = p.kind := Pl.decSeg_kind _ _
  have := Pl.segBytes_dec (c := Pl.segCheck (Pl.decSeg p.kind xs) (ov4 (Pl.decSeg p.kind xs) src dst (xs.drop (Pl.segSize p.kind)).length) (xs.drop (Pl.segSize p.kind))) h.ok
  rw [hk] at this
  exact this
theorem Crossing.drop (h : Crossing p n xs src dst) : (Crossing.body p xs src dst).drop (Pl.segSize p.kind) = xs.drop (Pl.segSize p.kind) := by
  have hk : (Pl.decSeg p.kind xs).kind = p.kind := Pl.decSeg_kind _ _
  have := Pl.segBytes_drop (s := Pl.decSeg p.kind xs) (c := Pl.segCheck (Pl.decSeg p.kind xs) (ov4 (Pl.decSeg p.kind xs) src dst (xs.drop (Pl.segSize p.kind)).length) (xs.drop (Pl.segSize p.kind))) (xs := xs.drop (Pl.segSize p.kind)) (by rw [hk]; exact h.kind)
  rw [hk] at this
  exact this
theorem Crossing.ok4 (h : Crossing p n xs src dst) : Pl.Ok4 src dst (p.hop - 1) p.kind 0 := by
  obtain ⟨h0, h1⟩ := h.hop
  have hk := h.kind
  exact ⟨h.src, h.dst, ⟨by omega, by omega⟩, ⟨by omega, by omega⟩, ⟨by omega, by omega⟩⟩
theorem Crossing.back (h : Crossing p n xs src dst) : x6Q src dst (p.hop - 1) p.kind 0 n (Crossing.body p xs src dst) p.src p.dst = if p.hop < 3 then 7 else 0 := by
  have hf : fault4 src dst (p.hop - 1) p.kind 0 n = 0 := by
    have hok : ok4b src dst (p.hop - 1) p.kind 0 = true := by
      cases hb' : ok4b src dst (p.hop - 1) p.kind 0
      · exact absurd h.ok4 (ok4b_no hb')
      · rfl
    unfold fault4
    rw [hok, if_pos rfl, if_pos h.small]
  obtain ⟨hs, hd, _, _⟩ := P6.good_all h.good
  have hq : Pl.opQ p.kind (Crossing.body p xs src dst) (val4 src dst p.kind n) = 0 := by
    rw [(Pl.op_known h.kind).1]
    have hk : (Pl.decSeg p.kind xs).kind = p.kind := Pl.decSeg_kind _ _
    have hov : ov4 (Pl.decSeg p.kind xs) src dst (xs.drop (Pl.segSize p.kind)).length = val4 src dst p.kind n := by
      unfold ov4
      rw [hk, ← h.size]
      congr 1
    have := Pl.segQ_enc (over := ov4 (Pl.decSeg p.kind xs) src dst (xs.drop (Pl.segSize p.kind)).length) h.ok val4_word
    rw [hk, hov] at this
    unfold Crossing.body body4
    rw [hov]
    exact this
  unfold x6Q
  rw [if_neg (by rw [hf]; simp), if_neg (by simp [hs, hd]), if_neg (by rw [hq]; simp)]
  by_cases h3 : p.hop < 3
  · rw [if_pos h3, if_pos (by omega)]
  · rw [if_neg h3, if_neg (by omega)]
theorem Crossing.same (h : Crossing p n xs src dst) : x6B p.kind (Crossing.body p xs src dst) p.src p.dst 0 = xs ∧ x6p (p.hop - 1) p.kind p.src p.dst 0 = ⟨p.src, p.dst, p.hop - 1 - 1, p.kind⟩ := by
  constructor
  · unfold x6B
    rw [if_pos rfl, h.dec, h.drop]
    exact h.enc
  · unfold x6p
    rw [if_pos rfl]
end
end Go.Proofs.Ytoaahiclmodcgaa
/- Plain laws of the check of what crosses: with the old addresses swapped for the new ones it is the new check. Conditions: as each lemma states them. -/
namespace Go.Proofs.Ytoaahiclmodcgaa
open Go.RowKit
theorem swapv_eq (a b c : Int) : ∃ k, swapv a b c = a + b - c + 65535 * k := by
  obtain ⟨k1, h1⟩ := Pl.fold_eq (65535 - a + 65535 - b)
  obtain ⟨k2, h2⟩ := Pl.fold_eq (Pl.fold (65535 - a + 65535 - b) + c)
  unfold swapv
  exact ⟨-k1 - k2 - 1, by omega⟩
theorem swapv_bd (a b c : Int) : 0 ≤ swapv a b c ∧ swapv a b c ≤ 65535 := by
  have h0 := Pl.fold_lo (Pl.fold (65535 - a + 65535 - b) + c)
  have h1 := Pl.fold_hi (Pl.fold (65535 - a + 65535 - b) + c)
  unfold swapv
  omega
/-- The numbers of the new addresses, one for each of the old ones. -/
def newsL (s d : Int) : List Int := [s / 65536, s % 65536, d / 65536, d % 65536, 0, 0, 0, 0]
/-- The check after k rounds: what it is but for 65535. -/
def SwIs (c0 : Int) (S D N : List Int) (k : Nat) (c : Int) : Prop := ∃ m : Int, c = c0 + ((S.take k).sum + (D.take k).sum - (N.take k).sum) + 65535 * m
theorem SwIs.zero (c0 : Int) (S D N : List Int) : SwIs c0 S D N 0 c0 := ⟨0, by simp⟩
theorem SwIs.step {c0 : Int} {S D N : List Int} {k : Nat} {c : Int} (h : SwIs c0 S D N k c) (hs : k < S.length) (hd : k < D.length) (hn : k < N.length) :
    SwIs c0 S D N (k + 1) (swapv (swapv c (S.getD k 0) (N.getD k 0)) (D.getD k 0) 0) := by
  obtain ⟨m, rfl⟩ := h
  rw [SwIs, take_snoc S k hs, take_snoc D k hd, take_snoc N k hn]
  simp only [List.sum_append, List.sum_cons, List.sum_nil]
  generalize (S.take k).sum = s at *
  generalize (D.take k).sum = d at *
  generalize (N.take k).sum = n at *
  generalize S.getD k 0 = x at *
  generalize D.getD k 0 = y at *
  generalize N.getD k 0 = z at *
  obtain ⟨k1, h1⟩ := swapv_eq (c0 + (s + d - n) + 65535 * m) x z
  obtain ⟨k2, h2⟩ := swapv_eq (swapv (c0 + (s + d - n) + 65535 * m) x z) y 0
  exact ⟨m + k1 + k2, by omega⟩
theorem SwIs.all {c0 c : Int} {s d : Six} {x y : Int} (h : SwIs c0 s.l d.l (newsL x y) 8 c) : ∃ m : Int, c = c0 + (s.l.sum + d.l.sum - (x / 65536 + x % 65536 + (y / 65536 + y % 65536))) + 65535 * m := by
  obtain ⟨m, h⟩ := h
  refine ⟨m, ?_⟩
  have e1 : s.l.take 8 = s.l := rfl
  have e2 : d.l.take 8 = d.l := rfl
  have e3 : ((newsL x y).take 8).sum = x / 65536 + x % 65536 + (y / 65536 + y % 65536) := by
    show (x / 65536 + (x % 65536 + (y / 65536 + (y % 65536 + (0 + (0 + (0 + (0 + 0)))))))) = _
    omega
  rw [e1, e2, e3] at h
  exact h
theorem raw_four (s : Int) : Pl.raw 0 (Pl.four s) = s / 65536 + s % 65536 := by
  show 256 * (s / 16777216) + (s / 65536 % 256 + (256 * (s / 256 % 256) + (s % 256 + 0))) = _
  omega
theorem val4_eq (s d k n : Int) : ∃ m : Int, val4 s d k n = (s / 65536 + s % 65536 + (d / 65536 + d % 65536)) + (k + n) + 65535 * m := by
  obtain ⟨m, h⟩ := Pl.fold_eq (Pl.raw 0 (Pl.four s ++ Pl.four d ++ Pl.two [k, n]))
  refine ⟨m, ?_⟩
  unfold val4
  rw [h, Pl.raw_parts _ _ (by simp [Pl.four]), Pl.raw_parts _ _ (by simp [Pl.four]), raw_four, raw_four, Pl.raw_two]
  simp only [List.sum_cons, List.sum_nil]
  omega
theorem val6_eq (s d : Six) (k n : Int) : ∃ m : Int, val6 s d k n = (s.l.sum + d.l.sum) + (k + n) + 65535 * m := by
  obtain ⟨m, h⟩ := Pl.fold_eq (Pl.raw 0 (Pl.two s.l ++ Pl.two d.l ++ Pl.two [k, n]))
  refine ⟨m, ?_⟩
  unfold val6
  rw [h, Pl.raw_parts _ _ (by rw [List.length_append, Pl.two_length, Pl.two_length]; omega), Pl.raw_parts _ _ (by rw [Pl.two_length]; omega), Pl.raw_two, Pl.raw_two, Pl.raw_two]
  generalize s.l.sum = a
  generalize d.l.sum = b
  simp only [List.sum_cons, List.sum_nil]
  omega
theorem check_eq {s : Sg} {n : Nat} {xs : List Int} (hk : Pl.SegOk s n) (hn : xs.length = n) (hx : Pl.IsB xs) {o : Int} (ho : Pl.Word o) : ∃ k, Pl.segCheck s o xs = 65535 - (o + Pl.raw 0 (Pl.segBytes s 0 xs)) + 65535 * k := by
  subst hn
  have hR := (Pl.raw_bd (Pl.segBytes_isB (c := 0) hk (by decide) hx) 0).1
  obtain ⟨k, hk⟩ := Pl.fold_eq (o + Pl.raw 0 (Pl.segBytes s 0 xs))
  have hS : Pl.segSum s o xs = 65535 - Pl.fold (o + Pl.raw 0 (Pl.segBytes s 0 xs)) := by
    unfold Pl.segSum
    rw [Pl.fold_over ho hR]
  unfold Pl.segCheck
  split
  · exact ⟨-k + 1, by omega⟩
  · exact ⟨-k, by omega⟩
section
variable {p : P6} {n : Nat} {xs : List Int} {src dst : Int}
theorem Crossing.at6 (h : Crossing p n xs src dst) : Pl.at2 xs (Pl.segAt p.kind) = Pl.segCheck (Pl.decSeg p.kind xs) (ov6 (Pl.decSeg p.kind xs) p.src p.dst (xs.drop (Pl.segSize p.kind)).length) (xs.drop (Pl.segSize p.kind)) := by
  have hk : (Pl.decSeg p.kind xs).kind = p.kind := Pl.decSeg_kind _ _
  have := Pl.segBytes_at (s := Pl.decSeg p.kind xs) (c := Pl.segCheck (Pl.decSeg p.kind xs) (ov6 (Pl.decSeg p.kind xs) p.src p.dst (xs.drop (Pl.segSize p.kind)).length) (xs.drop (Pl.segSize p.kind))) (xs := xs.drop (Pl.segSize p.kind)) (by rw [hk]; exact h.kind)
  rw [hk] at this
  rw [← this]
  congr 1
  exact h.enc.symm
theorem Crossing.at4 (h : Crossing p n xs src dst) : Pl.at2 (Crossing.body p xs src dst) (Pl.segAt p.kind) = Pl.segCheck (Pl.decSeg p.kind xs) (ov4 (Pl.decSeg p.kind xs) src dst (xs.drop (Pl.segSize p.kind)).length) (xs.drop (Pl.segSize p.kind)) := by
  have hk : (Pl.decSeg p.kind xs).kind = p.kind := Pl.decSeg_kind _ _
  have := Pl.segBytes_at (s := Pl.decSeg p.kind xs) (c := Pl.segCheck (Pl.decSeg p.kind xs) (ov4 (Pl.decSeg p.kind xs) src dst (xs.drop (Pl.segSize p.kind)).length) (xs.drop (Pl.segSize p.kind))) (xs := xs.drop (Pl.segSize p.kind)) (by rw [hk]; exact h.kind)
  rw [hk] at this
  exact this
theorem Crossing.swapped (h : Crossing p n xs src dst) (hb : Pl.IsB xs) {c : Int} (hc : 0 ≤ c ∧ c ≤ 65535) (hs : SwIs (Pl.at2 xs (Pl.segAt p.kind)) p.src.l p.dst.l (newsL src dst) 8 c) :
    c = Pl.at2 (Crossing.body p xs src dst) (Pl.segAt p.kind) ∨ (c = 0 ∨ c = 65535) ∧ (Pl.at2 (Crossing.body p xs src dst) (Pl.segAt p.kind) = 0 ∨ Pl.at2 (Crossing.body p xs src dst) (Pl.segAt p.kind) = 65535) := by
  obtain ⟨m, hm⟩ := hs.all
  have hD := hb.drop (Pl.segSize p.kind)
  have hO := h.ok
  rw [h.at6] at hm
  rw [h.at4]
  have hbd := Pl.segCheck_bd (Pl.decSeg p.kind xs) (ov4 (Pl.decSeg p.kind xs) src dst (xs.drop (Pl.segSize p.kind)).length) (xs.drop (Pl.segSize p.kind))
  generalize xs.drop (Pl.segSize p.kind) = ds at *
  have w4 : Pl.Word (ov4 (Pl.decSeg p.kind xs) src dst ds.length) := val4_word
  have w6 : Pl.Word (ov6 (Pl.decSeg p.kind xs) p.src p.dst ds.length) := ⟨Pl.fold_lo _, Pl.fold_hi _⟩
  obtain ⟨k4, e4⟩ := check_eq hO rfl hD w4
  obtain ⟨k6, e6⟩ := check_eq hO rfl hD w6
  obtain ⟨v4, f4⟩ : ∃ m : Int, ov4 (Pl.decSeg p.kind xs) src dst ds.length = (src / 65536 + src % 65536 + (dst / 65536 + dst % 65536)) + ((Pl.decSeg p.kind xs).kind + ((Pl.segSize (Pl.decSeg p.kind xs).kind : Int) + (ds.length : Int))) + 65535 * m := val4_eq _ _ _ _
  obtain ⟨v6, f6⟩ : ∃ m : Int, ov6 (Pl.decSeg p.kind xs) p.src p.dst ds.length = (p.src.l.sum + p.dst.l.sum) + ((Pl.decSeg p.kind xs).kind + ((Pl.segSize (Pl.decSeg p.kind xs).kind : Int) + (ds.length : Int))) + 65535 * m := val6_eq _ _ _ _
  generalize ov4 (Pl.decSeg p.kind xs) src dst ds.length = V4 at *
  generalize ov6 (Pl.decSeg p.kind xs) p.src p.dst ds.length = V6 at *
  generalize Pl.segCheck (Pl.decSeg p.kind xs) V4 ds = C4 at *
  generalize Pl.segCheck (Pl.decSeg p.kind xs) V6 ds = C6 at *
  generalize Pl.raw 0 (Pl.segBytes (Pl.decSeg p.kind xs) 0 ds) = R at *
  generalize (Pl.segSize (Pl.decSeg p.kind xs).kind : Int) + (ds.length : Int) = L at *
  generalize (Pl.decSeg p.kind xs).kind = K at *
  generalize p.src.l.sum = A at *
  generalize p.dst.l.sum = B at *
  generalize src / 65536 + src % 65536 + (dst / 65536 + dst % 65536) = N at *
  clear hO hD hs h hb w4 w6
  have key : ∃ j : Int, c = C4 + 65535 * j := ⟨m + k6 - k4 + v4 - v6, by omega⟩
  obtain ⟨j, hj⟩ := key
  omega
end
end Go.Proofs.Ytoaahiclmodcgaa
namespace Go.Proofs.Ytoaahiclmodcgaa.crossSums
open Go.ChangeShapes Go.WideShapes Go.ChangeAt Go.RowKit

theorem to4_ok (p : P6) (a : Option Addr) (n c : Nat) (xs : List Int) (src dst : Int) (w : World) (hr : Ints .u8 w a n xs) (hb : Pl.IsB xs) (hnc : n ≤ c) (hc : a = none → c = 0) (hq : x4Q p n xs src dst = 0) :
    Calls Try.prog 17 #[p.v (.slice a n c), .int .i64 src, .int .i64 dst] w fun e w' => ∃ a' c', e = .returned (.tuple #[.agg (c4 src dst (p.hop - 1) p.kind 0 (.slice a' n c')), .nilIface]) ∧ Own w' w.heap.size (.slice a' n c') (Crossing.body p xs src dst) ∧ Ext w w' := by
  refine (to4_any p a n c xs src dst w hr hb hnc hc).mono ?_
  rintro e w' ⟨a', n', c', rfl, o, q⟩
  have hX := crossing_of hr.len hb hq
  rw [hq, Crossing.body_eq] at o
  have hn : n = n' := hX.len.symm.trans o.len
  subst hn
  refine ⟨a', c', ?_, o, q⟩
  rw [hq]
  rfl
theorem to4_err (p : P6) (a : Option Addr) (n c : Nat) (xs : List Int) (src dst : Int) (w : World) (hr : Ints .u8 w a n xs) (hb : Pl.IsB xs) (hnc : n ≤ c) (hc : a = none → c = 0) (hq : x4Q p n xs src dst ≠ 0) :
    Calls Try.prog 17 #[p.v (.slice a n c), .int .i64 src, .int .i64 dst] w fun e w' => ∃ x0 x1 x2 x3 a' n' c', e = .returned (.tuple #[.agg (c4 x0 x1 x2 x3 0 (.slice a' n' c')), errv (x4Q p n xs src dst)]) ∧ Ext w w' := by
  refine (to4_any p a n c xs src dst w hr hb hnc hc).mono ?_
  rintro e w' ⟨a', n', c', rfl, _, q⟩
  exact ⟨_, _, _, _, a', n', c', by rw [erv_ne hq]; rfl, q⟩
theorem at16 {k : Int} (h : (k == 6) = true) : Pl.segAt k = 16 := by
  have h' : k = 6 := by simpa using h
  unfold Pl.segAt
  rw [if_pos h']
theorem at6 {k : Int} (h : (k == 6) = false) : Pl.segAt k = 6 := by
  have h' : ¬ k = 6 := by simpa using h
  unfold Pl.segAt
  rw [if_neg h']
theorem words_getD {l : List Int} (h : words l = true) {k : Nat} (hk : k < l.length) : 0 ≤ l.getD k 0 ∧ l.getD k 0 ≤ 65535 :=
  Decidable.byContradiction fun hn => by rw [words_bad l k hk hn] at h; cases h
theorem newsL_bd {x y : Int} (hx : 0 ≤ x ∧ x < 4294967296) (hy : 0 ≤ y ∧ y < 4294967296) {k : Nat} (hk : k < 8) : 0 ≤ (newsL x y).getD k 0 ∧ (newsL x y).getD k 0 ≤ 65535 := by
  have h : k = 0 ∨ k = 1 ∨ k = 2 ∨ k = 3 ∨ k = 4 ∨ k = 5 ∨ k = 6 ∨ k = 7 := by omega
  rcases h with rfl | rfl | rfl | rfl | rfl | rfl | rfl | rfl <;> simp [newsL] <;> omega
theorem seg_in {p : P6} {n : Nat} {xs : List Int} {src dst : Int} (h : Crossing p n xs src dst) : Pl.segAt p.kind + 1 < n := by
  have := h.size
  have hk := h.kind
  unfold Pl.segSize Pl.segAt at *
  split at this <;> split <;> omega
theorem src_cell {w : World} {g : Nat} {t : TypeId} {p : P6} {b : Value} (h : Blk w g t (p.cells b)) {k : Nat} (hk : k < 8) : w.cell? ⟨g, k, none⟩ = some (.int .i64 (p.src.l.getD k 0)) := by
  rw [h.cells]
  have h : k = 0 ∨ k = 1 ∨ k = 2 ∨ k = 3 ∨ k = 4 ∨ k = 5 ∨ k = 6 ∨ k = 7 := by omega
  rcases h with rfl | rfl | rfl | rfl | rfl | rfl | rfl | rfl <;> rfl
theorem dst_cell {w : World} {g : Nat} {t : TypeId} {p : P6} {b : Value} (h : Blk w g t (p.cells b)) {k : Nat} (hk : k < 8) : w.cell? ⟨g, 8 + k, none⟩ = some (.int .i64 (p.dst.l.getD k 0)) := by
  rw [h.cells]
  have h : k = 0 ∨ k = 1 ∨ k = 2 ∨ k = 3 ∨ k = 4 ∨ k = 5 ∨ k = 6 ∨ k = 7 := by omega
  rcases h with rfl | rfl | rfl | rfl | rfl | rfl | rfl | rfl <;> rfl
theorem fact_swap (w : World) : Calls Try.prog 16 #[.int .i64 65535, .int .i64 0, .int .i64 1] w fun e w' => e = .returned (.tuple #[.int .i64 65534, .nilIface]) ∧ Ext w w' :=
  (swap_ok 65535 0 1 w (by decide) (by decide) (by decide)).mono fun e w' h => ⟨h.1.trans (by rw [show swapv 65535 0 1 = 65534 by decide]), h.2⟩

set_option maxRecDepth 100000 in
set_option maxHeartbeats 4000000 in
theorem walk (p : P6) (a0 : Option Addr) (n0 c0 : Nat) (x0 : List Int) (x1 x2 : Int) (w : World) (w0 : IsP6 w p a0 n0 c0 x0) (_ : IsInt x1) (_ : IsInt x2) :
    Calls Try.prog 7 #[p.v (.slice a0 n0 c0), .int .i64 x1, .int .i64 x2] w fun e w' => e = .returned (.bool true) ∧ Below w.heap.size w w' := by
  obtain ⟨⟨hb0, hB0, hn0, _⟩, hc0, _⟩ := w0
  have H0 := Lib.hid hb0
  have HB0 := Lib.hid hB0
  have HC0 := Lib.hid hc0
  have KP := Blk.new w 55 (p.cells (.slice a0 n0 c0))
  have E0 : Ext w _ := (Ext.refl w).alloc (.cells (p.cells (.slice a0 n0 c0)) 55)
  have HSF := Lib.hid fact_swap
  clear hb0 hB0 hc0
  go_enter Try.func7, Try.ntmps7
  go_upto_region 1 with (fail)
  refine at_worldE (fun W => Ext w W ∧ Blk W w.heap.size 55 (p.cells (.slice a0 n0 c0))) ⟨E0, KP⟩ ?_
  clear E0 KP
  rintro W1 ⟨E1, KP⟩
  go_wp2_with fail
  refine (HSF.out W1).mono ?_
  rintro e W2 ⟨rfl, q2⟩
  replace E1 := E1.trans q2
  replace KP := KP.ext q2
  clear q2
  have ld := KP.p6
  go_wp2_with ((apply load_by rfl _ _ rfl _ rfl); (focus (with_reducible assumption)))
  by_cases hq : x4Q p n0 x0 x1 x2 = 0
  case neg =>
    refine (to4_err p a0 n0 c0 x0 x1 x2 W2 (H0.out.ext E1) HB0.out hn0 HC0.out hq).mono ?_
    rintro e W6 ⟨z0, z1, z2, z3, a6, n6, c6, rfl, q6⟩
    have E6 := E1.trans q6
    have KX := Blk.new W6 58 (c4 0 0 0 0 0 (.slice none 0 0))
    have st := sto4 KX z0 z1 z2 z3 0 a6 n6 c6
    have HE := Lib.hid ((E6.alloc (.cells (c4 0 0 0 0 0 (.slice none 0 0)) 58)).row E6.size (c4 z0 z1 z2 z3 0 (.slice a6 n6 c6)))
    unfold errv
    clear hq E1 KP q6 E6 KX ld
    go_wp2_with ((apply store_by rfl _ _ _ rfl _ rfl); (focus (with_reducible assumption)); (focus rfl))
    go_ret
    exact ⟨rfl, HE.out⟩
  have hX := crossing_of H0.out.len HB0.out hq
  have HX := Lib.hid hX
  refine (to4_ok p a0 n0 c0 x0 x1 x2 W2 (H0.out.ext E1) HB0.out hn0 HC0.out hq).mono ?_
  obtain ⟨B, hB⟩ : ∃ B, Crossing.body p x0 x1 x2 = B := ⟨_, rfl⟩
  rw [hB]
  have HBL := Lib.hid (show B.length = n0 from hB ▸ hX.len)
  have HBB := Lib.hid (show Pl.IsB B from hB ▸ hX.isB HB0.out)
  have HSW := Lib.hid (fun (c : Int) (hc : 0 ≤ c ∧ c ≤ 65535) (hs : SwIs (Pl.at2 x0 (Pl.segAt p.kind)) p.src.l p.dst.l (newsL x1 x2) 8 c) => (show c = Pl.at2 B (Pl.segAt p.kind) ∨ (c = 0 ∨ c = 65535) ∧ (Pl.at2 B (Pl.segAt p.kind) = 0 ∨ Pl.at2 B (Pl.segAt p.kind) = 65535) from hB ▸ hX.swapped HB0.out hc hs))
  have hJn := seg_in hX
  have HJN := Lib.hid hJn
  obtain ⟨s0, s1⟩ := hX.src
  obtain ⟨d0, d1⟩ := hX.dst
  have HS := Lib.hid (P6.good_all hX.good)
  have hkd : p.kind = 6 ∨ p.kind = 17 := hX.kind
  clear hB hX hq hJn HX
  rintro e W6 ⟨a6, c6, rfl, o6, q6⟩
  have E6 := E1.trans q6
  replace KP := KP.ext q6
  have KX := Blk.new W6 58 (c4 0 0 0 0 0 (.slice none 0 0))
  have st := sto4 KX x1 x2 (p.hop - 1) p.kind 0 a6 n0 c6
  have KX2 := KX.row (c4 x1 x2 (p.hop - 1) p.kind 0 (.slice a6 n0 c6))
  have hk6 := KP.lt
  have E7 := (E6.alloc (.cells (c4 0 0 0 0 0 (.slice none 0 0)) 58)).row E6.size (c4 x1 x2 (p.hop - 1) p.kind 0 (.slice a6 n0 c6))
  have KP7 := (KP.alloc (.cells (c4 0 0 0 0 0 (.slice none 0 0)) 58)).farRow (show w.heap.size ≠ W6.heap.size by omega) (c4 x1 x2 (p.hop - 1) p.kind 0 (.slice a6 n0 c6))
  obtain ⟨_, _, _, hv6, hnc6, r6, _⟩ := o6.readn
  cases hv6
  have r7 := Ints.keepRow (r6.ext ((Ext.refl W6).alloc (.cells (c4 0 0 0 0 0 (.slice none 0 0)) 58))) W6.heap.size (c4 x1 x2 (p.hop - 1) p.kind 0 (.slice a6 n0 c6)) (fun h0 p hp => by
    obtain ⟨b, o, rfl, hb, _⟩ := r6.at h0
    cases hp
    show b ≠ _
    omega)
  clear E1 E6 KP KX o6 r6 q6
  obtain ⟨_, t17, _⟩ := KP7.p6nums
  have hkb : (p.kind == 6) = true ∨ (p.kind == 6) = false := by cases p.kind == 6 <;> simp
  clear hkd
  clear ld
  go_upto_if 39 with (((apply store_by rfl _ _ _ rfl _ rfl); (focus (with_reducible assumption)); (focus rfl)))
  refine at_worldE (fun W => Ext w W ∧ Blk W w.heap.size 55 (p.cells (.slice a0 n0 c0)) ∧ Blk W W6.heap.size 58 (c4 x1 x2 (p.hop - 1) p.kind 0 (.slice a6 n0 c6)) ∧ Ints .u8 W a6 n0 B) ⟨E7, KP7, KX2, r7⟩ ?_
  clear E7 KP7 KX2 r7 st t17
  rintro W7 ⟨E7, KP, KX, r7⟩
  go_cut [11] (fun v wc => W7 = wc ∧ v = .int .i64 (Pl.segAt p.kind : Nat))
  case first =>
    rcases hkb with hkb | hkb
    · have HR := Lib.hid (at16 hkb)
      go_wp2_with fail
      go_meet
      exact ⟨rfl, by rw [HR.out]; rfl⟩
    · have HR := Lib.hid (at6 hkb)
      go_wp2_with fail
      go_meet
      exact ⟨rfl, by rw [HR.out]; rfl⟩
  obtain ⟨rfl, rfl⟩ := hcut
  have hgq : w.heap.size < W6.heap.size := hk6
  generalize W6.heap.size = gq at *
  obtain ⟨J, hJ⟩ : ∃ J, Pl.segAt p.kind = J := ⟨_, rfl⟩
  have hJ20 : J ≤ 20 := by rw [← hJ]; unfold Pl.segAt; split <;> omega
  have hJN : J + 1 < n0 := by rw [← hJ]; exact HJN.out
  rw [hJ] at HSW ⊢
  clear hkb hJ HJN
  have c18 : W7.cell? ⟨w.heap.size, 18, none⟩ = some (.slice a0 n0 c0) := KP.p6nums.2.2
  have f5 : W7.cell? ⟨gq, 5, none⟩ = some (.slice a6 n0 c6) := KX.cells 5
  obtain ⟨ba, oa, rfl, _, hca⟩ := (H0.out.ext E7).at (by omega)
  obtain ⟨bb, ob, rfl, _, hcb⟩ := r7.at (by omega)
  have e1 := hca J (by omega)
  have e2 := hca (J + 1) (by omega)
  have e3 := hcb J (by omega)
  have e4 := hcb (J + 1) (by omega)
  have ez : Pl.at2 x0 J = x0.getD J 0 * 256 + x0.getD (J + 1) 0 := rfl
  have ey : Pl.at2 B J = B.getD J 0 * 256 + B.getD (J + 1) 0 := rfl
  have b1 := HB0.out.getD J
  have b2 := HB0.out.getD (J + 1)
  have b3 := HBB.out.getD J
  have b4 := HBB.out.getD (J + 1)
  rw [ez, ey] at HSW
  generalize x0.getD J 0 = X at *
  generalize x0.getD (J + 1) 0 = X' at *
  generalize B.getD J 0 = Y at *
  generalize B.getD (J + 1) 0 = Y' at *
  obtain ⟨b10, b11⟩ := b1
  obtain ⟨b20, b21⟩ := b2
  obtain ⟨b30, b31⟩ := b3
  obtain ⟨b40, b41⟩ := b4
  have wJ : IntKind.i64.wrap ((J : Int) + 1) = (J : Int) + 1 := IntWalk.i64_in _ (by omega)
  have w1 : IntKind.i64.wrap X = X := IntWalk.i64_in _ (by omega)
  have w2 : IntKind.i64.wrap X' = X' := IntWalk.i64_in _ (by omega)
  have w3 : IntKind.i64.wrap Y = Y := IntWalk.i64_in _ (by omega)
  have w4 : IntKind.i64.wrap Y' = Y' := IntWalk.i64_in _ (by omega)
  have w5 : IntKind.i64.wrap (256 * X) = 256 * X := IntWalk.i64_in _ (by omega)
  have w6 : IntKind.i64.wrap (256 * Y) = 256 * Y := IntWalk.i64_in _ (by omega)
  have w7 : IntKind.i64.wrap (256 * X + X') = 256 * X + X' := IntWalk.i64_in _ (by omega)
  have w8 : IntKind.i64.wrap (256 * Y + Y') = 256 * Y + Y' := IntWalk.i64_in _ (by omega)
  have HE := Lib.hid E7
  have HKP := Lib.hid KP
  clear hca hcb ez ey E7 KP KX r7
  go_wp2_with fail
  go_quiet (fail)
  go_wp2_with fail
  go_quiet (fail)
  go_upto_region 12 with (fail)
  refine at_worldE (fun W => Ext w W ∧ Blk W w.heap.size 55 (p.cells (.slice (some ⟨ba, oa, none⟩) n0 c0))) ?_ ?_
  · first | exact ⟨HE.out.drewN _, HKP.out.drewN _⟩ | exact ⟨(HE.out.drewN _).drewN _, (HKP.out.drewN _).drewN _⟩
  clear c18 f5 e1 e2 e3 e4 wJ w1 w2 w3 w4 w5 w6 w7 w8 HE HKP
  rintro W8 ⟨E8, KP⟩
  have dq : Int.tdiv x1 65536 = x1 / 65536 := Int.tdiv_eq_ediv_of_nonneg s0
  have dr : Int.tmod x1 65536 = x1 % 65536 := Int.tmod_eq_emod_of_nonneg s0
  have eq : Int.tdiv x2 65536 = x2 / 65536 := Int.tdiv_eq_ediv_of_nonneg d0
  have er : Int.tmod x2 65536 = x2 % 65536 := Int.tmod_eq_emod_of_nonneg d0
  have v1 : IntKind.i64.wrap (x1 / 65536) = x1 / 65536 := IntWalk.i64_in _ (by omega)
  have v2 : IntKind.i64.wrap (x1 % 65536) = x1 % 65536 := IntWalk.i64_in _ (by omega)
  have v3 : IntKind.i64.wrap (x2 / 65536) = x2 / 65536 := IntWalk.i64_in _ (by omega)
  have v4 : IntKind.i64.wrap (x2 % 65536) = x2 % 65536 := IntWalk.i64_in _ (by omega)
  have HNB := Lib.hid (fun (k : Nat) (hk : k < 8) => newsL_bd ⟨s0, s1⟩ ⟨d0, d1⟩ hk)
  go_upto_region 13 with (fail)
  refine at_worldE (fun W => Ext w W ∧ Blk W w.heap.size 55 (p.cells (.slice (some ⟨ba, oa, none⟩) n0 c0)) ∧ Blk W W8.heap.size 3 #[.int .i64 (x1 / 65536), .int .i64 (x1 % 65536), .int .i64 (x2 / 65536), .int .i64 (x2 % 65536)]) ⟨E8.alloc _, KP.alloc _, Blk.new _ _ _⟩ ?_
  clear E8 KP dq dr eq er v1 v2 v3 v4
  rintro W9 ⟨E9, KP, KN⟩
  generalize W8.heap.size = gn at *
  obtain ⟨hsok, hdok, _, _⟩ := HS.out
  have HWS := Lib.hid (fun (k : Nat) (hk : k < 8) => words_getD (l := p.src.l) hsok (k := k) hk)
  have HWD := Lib.hid (fun (k : Nat) (hk : k < 8) => words_getD (l := p.dst.l) hdok (k := k) hk)
  clear hsok hdok HS
  go_wp2_with fail
  go_loopw [10, 12, 15] (fun e c i wr => ∃ (k : Nat) (ck : Int), k ≤ 8 ∧ i = .int .i64 k ∧ e = .nilIface ∧ c = .int .i64 ck ∧ (0 ≤ ck ∧ ck ≤ 65535) ∧ SwIs (X * 256 + X') p.src.l p.dst.l (newsL x1 x2) k ck ∧ Ext w wr ∧ Blk wr w.heap.size 55 (p.cells (.slice (some ⟨ba, oa, none⟩) n0 c0)) ∧ Blk wr gn 3 #[.int .i64 (x1 / 65536), .int .i64 (x1 % 65536), .int .i64 (x2 / 65536), .int .i64 (x2 % 65536)]) (fun _ _ i _ => 8 - (intOf i).toNat)
  case atStart => exact ⟨0, 256 * X + X', by omega, rfl, rfl, rfl, by omega, by rw [show 256 * X + X' = X * 256 + X' by omega]; exact SwIs.zero _ _ _ _, E9, KP, KN⟩
  case round =>
    clear E9 KP KN
    obtain ⟨k, ck, hk, rfl, rfl, rfl, ⟨k0, k1⟩, hsw, Er, KP, KN⟩ := hrel
    have HSK := Lib.hid hsw
    have HE := Lib.hid Er
    have HKP := Lib.hid KP
    have HKN := Lib.hid KN
    clear hsw Er
    by_cases hlt : k < 8
    · have hcs := src_cell KP hlt
      have hnb := HNB.out k hlt
      have hws := HWS.out k hlt
      have hwd := HWD.out k hlt
      have hst := HSK.out.step hlt hlt hlt
      have HST := Lib.hid hst
      have wk : IntKind.i64.wrap ((k : Int) + 1) = (k : Int) + 1 := IntWalk.i64_in _ (by omega)
      have hb1 := swapv_bd ck (p.src.l.getD k 0) ((newsL x1 x2).getD k 0)
      have hb2 := swapv_bd (swapv ck (p.src.l.getD k 0) ((newsL x1 x2).getD k 0)) (p.dst.l.getD k 0) 0
      have HD := Lib.hid (fun (W : World) (q : Blk W w.heap.size 55 (p.cells (.slice (some ⟨ba, oa, none⟩) n0 c0))) => dst_cell q hlt)
      have HNW : k < 4 → wr.cell? ⟨gn, k, none⟩ = some (.int .i64 ((newsL x1 x2).getD k 0)) := fun h4 => by
        rw [KN.cells]
        have h : k = 0 ∨ k = 1 ∨ k = 2 ∨ k = 3 := by omega
        rcases h with rfl | rfl | rfl | rfl <;> rfl
      have HNZ : ¬ k < 4 → (newsL x1 x2).getD k 0 = 0 := fun h4 => by
        have h : k = 4 ∨ k = 5 ∨ k = 6 ∨ k = 7 := by omega
        rcases h with rfl | rfl | rfl | rfl <;> rfl
      generalize p.src.l.getD k 0 = S at *
      generalize p.dst.l.getD k 0 = D at *
      generalize (newsL x1 x2).getD k 0 = N at *
      clear KP KN hst
      have HSW1 := Lib.hid (fun W => swap_ok ck S N W ⟨k0, k1⟩ hws hnb)
      have HSW2 := Lib.hid (fun W => swap_ok (swapv ck S N) D 0 W hb1 hwd (by decide))
      have HB2 := Lib.hid hb2
      clear hws hwd hnb hb1 hb2
      by_cases h4 : k < 4
      · have hcn := HNW h4
        clear HNW HNZ
        go_wp2_with fail
        refine (HSW1.out _).mono ?_
        rintro e Wa ⟨rfl, qa⟩
        have qa' : Ext _ Wa := qa
        have Ea := HE.out.trans qa'
        have Ka := HKP.out.ext qa'
        have Na := HKN.out.ext qa'
        have hcd := HD.out Wa Ka
        generalize swapv ck S N = c1 at *
        have HEa := Lib.hid Ea
        have HKa := Lib.hid Ka
        have HNa := Lib.hid Na
        clear qa qa' Ea Ka Na hcs hcn
        go_wp2_with fail
        refine (HSW2.out _).mono ?_
        rintro e Wb ⟨rfl, qb⟩
        have qb' : Ext _ Wb := qb
        have HEb := Lib.hid (HEa.out.trans qb')
        have HKb := Lib.hid (HKa.out.ext qb')
        have HNb := Lib.hid (HNa.out.ext qb')
        generalize swapv c1 D 0 = c2 at *
        clear qb qb' hcd
        go_wp2_with fail
        go_roundw
        case rel => exact ⟨k + 1, c2, by omega, by go_num, rfl, rfl, HB2.out, HST.out, HEb.out, HKb.out, HNb.out⟩
        case measure => simp [intOf]; omega
      · have hz := HNZ h4
        subst hz
        clear HNW HNZ
        go_wp2_with fail
        refine (HSW1.out _).mono ?_
        rintro e Wa ⟨rfl, qa⟩
        have qa' : Ext _ Wa := qa
        have Ea := HE.out.trans qa'
        have Ka := HKP.out.ext qa'
        have Na := HKN.out.ext qa'
        have hcd := HD.out Wa Ka
        generalize swapv ck S 0 = c1 at *
        have HEa := Lib.hid Ea
        have HKa := Lib.hid Ka
        have HNa := Lib.hid Na
        clear qa qa' Ea Ka Na hcs
        go_wp2_with fail
        refine (HSW2.out _).mono ?_
        rintro e Wb ⟨rfl, qb⟩
        have qb' : Ext _ Wb := qb
        have HEb := Lib.hid (HEa.out.trans qb')
        have HKb := Lib.hid (HKa.out.ext qb')
        have HNb := Lib.hid (HNa.out.ext qb')
        generalize swapv c1 D 0 = c2 at *
        clear qb qb' hcd
        go_wp2_with fail
        go_roundw
        case rel => exact ⟨k + 1, c2, by omega, by go_num, rfl, rfl, HB2.out, HST.out, HEb.out, HKb.out, HNb.out⟩
        case measure => simp [intOf]; omega
    · have hk8 : k = 8 := by omega
      subst hk8
      have hfin := HSW.out ck ⟨k0, k1⟩ HSK.out
      rw [show Y * 256 + Y' = 256 * Y + Y' by omega] at hfin
      clear KP KN
      generalize 256 * Y + Y' = y at *
      rcases hfin with rfl | ⟨ha, hb⟩
      · go_wp2_with fail
        go_ret
        exact ⟨rfl, HE.out⟩
      · rcases ha with rfl | rfl <;> rcases hb with rfl | rfl
        all_goals
          go_wp2_with fail
          go_ret
          exact ⟨rfl, HE.out⟩
set_option maxRecDepth 100000 in
theorem lifted (os : Os) (started : os.Started) (H : Type) (enc : TypeId × Value → H) :
    ReturnsInHanded {} Try.checked os 7 .any (Rows.crossSumsSpec.pre6 enc Try.prog Try.f7 Rows.crossSumsRow.domain false) (Rows.crossSumsSpec.post enc Try.prog Try.f7 false true false false) := by
  refine returnsInHanded_of_change (C := Try.checked) own started (by kernel_rfl) Try.func7
    (ChangeSpec.witness6 (enc := enc) (C := Try.checked) false ⟨#[], #[.agg #[.int .i64 0, .int .i64 0, .int .i64 0, .int .i64 0, .int .i64 0, .int .i64 0, .int .i64 0, .int .i64 0, .int .i64 0, .int .i64 0, .int .i64 0, .int .i64 0, .int .i64 0, .int .i64 0, .int .i64 0, .int .i64 0, .int .i64 0, .int .i64 0, .slice none 0 0], .int .i64 0, .int .i64 0], []⟩ 8 (by kernel_rfl) (by kernel_rfl) (by kernel_rfl) (by kernel_rfl)) ?_
  intro W base args ds gs before hval0 hW hcnd _
  have hval : ∀ (j : Nat) t v, Try.f7.params[j]? = some t → args[j]? = some v → Value.okWide Try.prog W .any base t v := hval0
  have hW' := hW
  obtain ⟨p, q, hA0, hV, rfl, hfz, hnd⟩ := hW
  have hA : DataW.TrodAll enc Try.prog W 0 (fun _ => true) true Try.f7.params.toList args.toList ds p := hA0
  rw [Try.params7] at hA hval
  obtain ⟨v0, vs0, d0, ds0, p0, q0, hargs, rfl, rfl, h0, r0⟩ := trodAll_cons hA
  obtain ⟨v1, vs1, d1, ds1, p1, q1, rfl, rfl, rfl, h1, r1⟩ := trodAll_cons r0
  obtain ⟨v2, vs2, d2, ds2, p2, q2, rfl, rfl, rfl, h2, r2⟩ := trodAll_cons r1
  obtain ⟨rfl, rfl, rfl⟩ := trodAll_nil r2
  obtain rfl : args = #[v0, v1, v2] := by cases args; simp_all
  obtain ⟨rfl, rfl⟩ := trodVars_none hV
  have lt0 : ∀ x ∈ p0, x.block < W.heap.size := by obtain ⟨m, hm⟩ := h0; exact DataW.trod_lt m _ _ _ hm
  have k0 := h0
  obtain ⟨pk0, a0, n0, c0, x0, rfl, w0⟩ := open_pack6 (hval 0 55 v0 rfl rfl) h0
  have lt1 : ∀ x ∈ p1, x.block < W.heap.size := by obtain ⟨m, hm⟩ := h1; exact DataW.trod_lt m _ _ _ hm
  have k1 := h1
  obtain ⟨x1, rfl, _, _, w1'⟩ := open_int Try.underlying3 (hval 1 3 v1 rfl rfl) h1
  have w1 : IsInt x1 := wf_i64 w1'
  have lt2 : ∀ x ∈ p2, x.block < W.heap.size := by obtain ⟨m, hm⟩ := h2; exact DataW.trod_lt m _ _ _ hm
  have k2 := h2
  obtain ⟨x2, rfl, _, _, w2'⟩ := open_int Try.underlying3 (hval 2 3 v2 rfl rfl) h2
  have w2 : IsInt x2 := wf_i64 w2'
  clear hA0 hval0
  refine (walk pk0 a0 n0 c0 x0 x1 x2 W w0 w1 w2).mono fun e W' ⟨he, bel⟩ => ?_
  subst he
  exact ⟨_, rfl, _, _, _, [], _, [], hW', trodAll_mk1 (shut_bool Try.underlying4 _), (trodAll_cons_mk (Below.trod laidOut (by kernel_rfl) (of_decide_eq_true (by kernel_rfl)) k0 bel lt0) (trodAll_cons_mk (Below.trod laidOut (by kernel_rfl) (of_decide_eq_true (by kernel_rfl)) k1 bel lt1) (trodAll_cons_mk (Below.trod laidOut (by kernel_rfl) (of_decide_eq_true (by kernel_rfl)) k2 bel lt2) trodAll_mk0))), rfl, bel.frame _, fun h => by cases h⟩

theorem over : Rows.crossSumsRow.holds Try.pinned (OpenSpec.ofChange Rows.crossSumsSpec) :=
  OpenClaim.holds_of_wide 7 Try.f7 rfl rfl rfl rfl rfl rfl rfl ⟨rfl, rfl, rfl, rfl, rfl⟩ rfl rfl rfl rfl rfl (by kernel_rfl) Try.func7 (by kernel_rfl)
    (of_decide_eq_true (by kernel_rfl)) (by unfold Func.isWrapper; first | (rw [if_pos (by decide +kernel)]; kernel_rfl) | (rw [if_neg (by decide +kernel)]; exact ⟨rfl, rfl⟩))
    (fun os started H enc _ => lifted os started H enc)

/-- THE STATEMENT. -/
theorem proved : Rows.CrossSumsSaid := over
#print axioms proved
end Go.Proofs.Ytoaahiclmodcgaa.crossSums
