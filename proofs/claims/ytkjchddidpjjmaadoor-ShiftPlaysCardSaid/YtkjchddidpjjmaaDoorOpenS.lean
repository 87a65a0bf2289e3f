/- What an argument is, once it is read: lists of segments. Conditions: as each lemma states them. -/
import Derived.Test.YtkjchddidpjjmaaDoorFrame
import Derived.Test.YtkjchddidpjjmaaDoorSeg
import Derived.Test.YtkjchddidpjjmaaDoorOpen
import Derived.Deep.Slices
namespace Go.Proofs.YtkjchddidpjjmaaDoor
open Go.ChangeShapes Go.WideShapes Go.ChangeAt Go.RowKit

/-- A segment and where its bytes lie. -/
structure Sd where
  s : Sg
  a : Option Addr
  n : Nat
  c : Nat
  xs : List Int
def Sd.d (x : Sd) : Value := .slice x.a x.n x.c
instance : Inhabited Sd := ⟨⟨⟨0, 0, 0, 0, 0, 0, 0⟩, none, 0, 0, []⟩⟩
def Sd.Is (w : World) (x : Sd) : Prop := IsBytes w x.a x.n x.c x.xs ∧ (x.a = none → x.c = 0) ∧ IsInt x.s.kind ∧ IsInt x.s.frm ∧ IsInt x.s.to ∧ IsInt x.s.seq ∧ IsInt x.s.ack ∧ IsInt x.s.flags ∧ IsInt x.s.win
/-- Segments that came in. -/
def IsSegs (w : World) (a : Option Addr) (n c : Nat) (ss : List Sd) : Prop :=
  ss.length = n ∧ n ≤ c ∧ c ≤ maxLen ∧ (n = 0 ∨ ∃ b off, a = some ⟨b, off, none⟩ ∧ ∀ i, i < n → (ss.getD i default).Is w ∧ ∀ j, j < 8 → w.cell? ⟨b, off + (i * 8 + j), none⟩ = ((ss.getD i default).s.cells (ss.getD i default).d)[j]?)

section
variable {H : Type} {enc : TypeId × Value → H} {W : World}
theorem Tryd.cellsIntS : Tryd.prog.cellsOf 3 = 1 := by kernel_rfl
theorem Tryd.cellsBytes : Tryd.prog.cellsOf 40 = 1 := by kernel_rfl
theorem Tryd.cellsSeg : Tryd.prog.cellsOf 50 = 8 := by kernel_rfl
/-- A slice of bytes that came in; nil has no room. -/
theorem open_bytesz {a : Option Addr} {n c : Nat} {d : DataW H} {p : List MemPlace}
    (h : DataW.Trod enc Tryd.prog W 0 (fun _ => true) true 40 (.slice a n c) d p) : ∃ xs, IsBytes W a n c xs ∧ (a = none → c = 0) := by
  obtain ⟨fuel, hf⟩ := h
  obtain ⟨a', l, k, xs, hv, hb, hn⟩ := open_field_bytes rfl (by simpa [Value.cells] using hf)
  obtain ⟨rfl, rfl, rfl⟩ : a = a' ∧ n = l ∧ c = k := by simpa using hv
  exact ⟨xs, hb, hn⟩
/-- Numbers that came in. -/
def IsIntsl (w : World) (a : Option Addr) (n c : Nat) (xs : List Int) : Prop := Ints .i64 w a n xs ∧ (∀ x ∈ xs, IsInt x) ∧ n ≤ c ∧ c ≤ maxLen
theorem open_intsl {a : Option Addr} {n c : Nat} {d : DataW H} {p : List MemPlace}
    (h : DataW.Trod enc Tryd.prog W 0 (fun _ => true) true 107 (.slice a n c) d p) : ∃ xs, IsIntsl W a n c xs := by
  obtain ⟨fuel, hf⟩ := h
  rcases open_ints Tryd.underlying107 Tryd.underlying3 (by kernel_rfl) hf with ⟨hcs, _⟩ | ⟨x, l, c', zs, hcs, _, hl, hm, hz, _, hcell, hwz⟩
  · simp [Value.cells] at hcs
    obtain ⟨rfl, rfl, rfl⟩ := hcs
    exact ⟨[], Ints.nil, (by simp), Nat.le_refl _, Nat.zero_le _⟩
  · simp [Value.cells] at hcs
    obtain ⟨rfl, rfl, rfl⟩ := hcs
    exact ⟨zs.take n, ints_of_cells hl (by simpa using hz) hcell, fun y hy => wf_i64 (hwz y (List.mem_of_mem_take hy)), hl, hm⟩
set_option maxRecDepth 100000 in
theorem open_segs {a : Option Addr} {n c : Nat} {d : DataW H} {p : List MemPlace}
    (h : DataW.Trod enc Tryd.prog W 0 (fun _ => true) true 41 (.slice a n c) d p) : ∃ ss, IsSegs W a n c ss := by
  obtain ⟨fuel, hf⟩ := h
  rcases Go.Deep.open_slice Tryd.underlying41 hf with ⟨hcs, _⟩ | ⟨x, l, c', m, n', D, P, hcs, _, hl, hm, hmm, _, hx⟩
  · simp [Value.cells] at hcs
    obtain ⟨rfl, rfl, rfl⟩ := hcs
    exact ⟨[], rfl, Nat.le_refl _, Nat.zero_le _, .inl rfl⟩
  · simp [Value.cells] at hcs
    obtain ⟨rfl, rfl, rfl⟩ := hcs
    simp only [if_true] at hmm
    subst hmm
    obtain ⟨b, off, spot⟩ := x
    have key : ∀ i, i < m → ∃ y : Sd, y.Is W ∧ ∀ j, j < 8 → W.cell? ((Addr.mk b off spot).add (i * 8 + j)) = (y.s.cells y.d)[j]? := fun i hi => by
      obtain ⟨cs', hc', ht⟩ := hx i hi
      rw [Tryd.cellsSeg] at hc'
      obtain ⟨xs, q, _, _, hl', hlen, hg⟩ := DataW.trod_struct Tryd.underlying50 ht
      obtain ⟨_, hcl, hat⟩ := World.cells?_some hc'
      match cs', hl'.trans Tryd.cellsSeg with
      | [c0, c1, c2, c3, c4, c5, c6, c7], _ =>
        obtain ⟨x0, rfl, i0⟩ := open_field_int Tryd.underlying3 (isSome_of_len (j := 0) hlen (by simp)) (by simpa [Tryd.cellsIntS] using hg 0 _ rfl)
        obtain ⟨x1, rfl, i1⟩ := open_field_int Tryd.underlying3 (isSome_of_len (j := 1) hlen (by simp)) (by simpa [Tryd.cellsIntS] using hg 1 _ rfl)
        obtain ⟨x2, rfl, i2⟩ := open_field_int Tryd.underlying3 (isSome_of_len (j := 2) hlen (by simp)) (by simpa [Tryd.cellsIntS] using hg 2 _ rfl)
        obtain ⟨x3, rfl, i3⟩ := open_field_int Tryd.underlying3 (isSome_of_len (j := 3) hlen (by simp)) (by simpa [Tryd.cellsIntS] using hg 3 _ rfl)
        obtain ⟨x4, rfl, i4⟩ := open_field_int Tryd.underlying3 (isSome_of_len (j := 4) hlen (by simp)) (by simpa [Tryd.cellsIntS] using hg 4 _ rfl)
        obtain ⟨x5, rfl, i5⟩ := open_field_int Tryd.underlying3 (isSome_of_len (j := 5) hlen (by simp)) (by simpa [Tryd.cellsIntS] using hg 5 _ rfl)
        obtain ⟨x6, rfl, i6⟩ := open_field_int Tryd.underlying3 (isSome_of_len (j := 6) hlen (by simp)) (by simpa [Tryd.cellsIntS] using hg 6 _ rfl)
        obtain ⟨a', m', k', ys, rfl, hy, hn⟩ := open_field_bytes (isSome_of_len (j := 7) hlen (by simp)) (by simpa [Tryd.cellsBytes] using hg 7 _ rfl)
        refine ⟨⟨⟨x0, x1, x2, x3, x4, x5, x6⟩, a', m', k', ys⟩, ⟨hy, hn, i0, i1, i2, i3, i4, i5, i6⟩, fun j hj => ?_⟩
        rw [← Go.Deep.add_add, hat j hj]
        simp [Sg.cells, Sd.d]
    obtain ⟨F, hF⟩ := Go.Deep.choose_lt key
    refine ⟨(List.range n).map F, by simp, hl, hm, ?_⟩
    rcases Nat.eq_zero_or_pos n with h0 | h0
    · exact .inl h0
    · refine .inr ?_
      have hspot : spot = none := by
        have := (hF 0 (by omega)).2 0 (by omega)
        simpa [Addr.add] using World.cell?_spot this
      subst hspot
      refine ⟨b, off, rfl, fun i hi => ?_⟩
      have e : ((List.range n).map F).getD i default = F i := by simp [List.getD, hi]
      rw [e]
      have q := hF i (by omega)
      exact ⟨q.1, fun j hj => by have := q.2 j hj; rw [Addr.add_lit] at this; exact this⟩
end

theorem IsBytes.ext {w w' : World} {a : Option Addr} {n c : Nat} {xs : List Int} (h : IsBytes w a n c xs) (k : Ext w w') : IsBytes w' a n c xs := ⟨h.1.ext k, h.2.1, h.2.2.1, h.2.2.2⟩
/-- One of them, in a later world. -/
theorem IsSegs.at {w w' : World} {a : Option Addr} {n c : Nat} {ss : List Sd} (h : IsSegs w a n c ss) (k : Ext w w') (hn : 0 < n) :
    ∃ b off, a = some ⟨b, off, none⟩ ∧ b < w.heap.size ∧ ∀ i, i < n → (ss.getD i default).Is w' ∧ ∀ j, j < 8 → w'.cell? ⟨b, off + (i * 8 + j), none⟩ = ((ss.getD i default).s.cells (ss.getD i default).d)[j]? := by
  obtain ⟨_, _, _, h0 | ⟨b, off, rfl, hc⟩⟩ := h
  · omega
  have hb : b < w.heap.size := by
    have := (hc 0 hn).2 0 (by omega)
    exact World.block_lt_of_cell? w _ (this.trans (by simp [Sg.cells]; rfl))
  refine ⟨b, off, rfl, hb, fun i hi => ⟨⟨(hc i hi).1.1.ext k, (hc i hi).1.2⟩, fun j hj => ?_⟩⟩
  rw [World.cell?_of_block (Below.block k b hb)]
  exact (hc i hi).2 j hj
/-- A whole segment, loaded. -/
theorem load_seg {w : World} {b off : Nat} (s : Sg) (d : Value) (h : ∀ j, j < 8 → w.cell? ⟨b, off + j, none⟩ = (s.cells d)[j]?) :
    (Instr.loadAt 50 (.pointer (some ⟨b, off, none⟩))).run Tryd.prog w = .ok (.agg (s.cells d)) w := by
  have := run_loadAt_mid (P := Tryd.prog) w b off 50 (s.cells d).toList _ (fun j v hv => by
    rw [Array.getElem?_toList] at hv
    rw [h j (by have := (Array.getElem?_eq_some_iff.1 hv).1; simpa [Sg.cells] using this)]; exact hv) Tryd.underlying50 rfl Tryd.sizeSeg
  rw [Array.toArray_toList] at this
  exact this
end Go.Proofs.YtkjchddidpjjmaaDoor
