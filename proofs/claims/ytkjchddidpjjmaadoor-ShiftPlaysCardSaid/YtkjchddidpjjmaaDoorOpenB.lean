/- What an argument is, once it is read: a segment; a list of truths. Conditions: as each lemma states them. -/
import Derived.Test.YtkjchddidpjjmaaDoorOpenS
import Derived.Test.YtkjchddidpjjmaaDoorOpen6
namespace Go.Proofs.YtkjchddidpjjmaaDoor
open Go.ChangeShapes Go.WideShapes Go.ChangeAt Go.RowKit

/-- Truths that came in. -/
def IsBools (w : World) (a : Option Addr) (n : Nat) (bs : List Bool) : Prop :=
  bs.length = n ∧ n ≤ maxLen ∧ (n = 0 ∨ ∃ b off, a = some ⟨b, off, none⟩ ∧ b < w.heap.size ∧ ∀ i, i < n → w.cell? ⟨b, off + i, none⟩ = some (.bool (bs.getD i false)))
section
theorem Tryd.cellsTruth : Tryd.prog.cellsOf 4 = 1 := by kernel_rfl
variable {H : Type} {enc : TypeId × Value → H} {W : World}
theorem open_cell_truth {n : Nat} {c : Value} {y : Option (DataW H × List MemPlace)} (hy : y.isSome = true) (h : DataW.trod enc Tryd.prog W 0 (fun _ => true) true n 4 [c] = y) : ∃ x, c = .bool x := by
  obtain ⟨y, rfl⟩ := Option.isSome_iff_exists.1 hy
  obtain ⟨x, hx, _⟩ := DataW.trod_bool Tryd.underlying4 h
  exact ⟨x, by simpa using hx⟩
set_option maxRecDepth 100000 in
theorem open_bools {a : Option Addr} {n c : Nat} {d : DataW H} {p : List MemPlace}
    (h : DataW.Trod enc Tryd.prog W 0 (fun _ => true) true 42 (.slice a n c) d p) : ∃ bs, IsBools W a n bs := by
  obtain ⟨fuel, hf⟩ := h
  rcases Go.Deep.open_slice Tryd.underlying42 hf with ⟨hcs, _⟩ | ⟨x, l, c', m, n', D, P, hcs, _, hl, hm, hmm, _, hx⟩
  · simp [Value.cells] at hcs
    obtain ⟨rfl, rfl, rfl⟩ := hcs
    exact ⟨[], rfl, Nat.zero_le _, .inl rfl⟩
  · simp [Value.cells] at hcs
    obtain ⟨rfl, rfl, rfl⟩ := hcs
    simp only [if_true] at hmm
    subst hmm
    obtain ⟨b, off, spot⟩ := x
    have key : ∀ i, i < m → ∃ y : Bool, W.cell? ((Addr.mk b off spot).add i) = some (.bool y) := fun i hi => by
      obtain ⟨cs', hc', ht⟩ := hx i hi
      rw [Tryd.cellsTruth] at hc'
      obtain ⟨_, hcl, hat⟩ := World.cells?_some hc'
      match cs', hcl with
      | [c0], _ =>
        obtain ⟨y, rfl⟩ := open_cell_truth rfl ht
        refine ⟨y, ?_⟩
        have := hat 0 (by omega)
        rw [Go.Deep.add_add] at this
        simpa using this
    obtain ⟨F, hF⟩ := Go.Deep.choose_lt key
    refine ⟨(List.range n).map F, by simp, by omega, ?_⟩
    rcases Nat.eq_zero_or_pos n with h0 | h0
    · exact .inl h0
    · refine .inr ?_
      have hspot : spot = none := by
        have := hF 0 (by omega)
        simpa [Addr.add] using World.cell?_spot this
      subst hspot
      refine ⟨b, off, rfl, ?_, fun i hi => ?_⟩
      · have := hF 0 (by omega)
        exact World.block_lt_of_cell? W _ this
      have e : ((List.range n).map F).getD i false = F i := by simp [List.getD, hi]
      rw [e]
      have q := hF i (by omega)
      rw [Addr.add_lit] at q
      exact q
set_option maxRecDepth 100000 in
/-- A segment that came in. -/
theorem open_seg {v : Value} {d : DataW H} {p : List MemPlace} {base : Nat} (hv : Value.okWide Tryd.prog W .any base 50 v) (h : DataW.Trod enc Tryd.prog W 0 (fun _ => true) true 50 v d p) :
    ∃ (s : Sg) (a : Option Addr) (l c : Nat) (xs : List Int), v = s.v (.slice a l c) ∧ Sd.Is W ⟨s, a, l, c, xs⟩ := by
  obtain ⟨cs, rfl, hsz⟩ := okWide_struct Tryd.underlying50 hv
  obtain ⟨l⟩ := cs
  match l, hsz.trans Tryd.cellsSeg with
  | [c0, c1, c2, c3, c4, c5, c6, c7], _ =>
    obtain ⟨fuel, hf⟩ := h
    obtain ⟨xs, n, _, _, _, hlen, hg⟩ := DataW.trod_struct Tryd.underlying50 hf
    obtain ⟨x0, rfl, i0⟩ := open_field_int Tryd.underlying3 (isSome_of_len (j := 0) hlen (by simp)) (by simpa [Value.cells, Tryd.cellsIntS] using hg 0 _ rfl)
    obtain ⟨x1, rfl, i1⟩ := open_field_int Tryd.underlying3 (isSome_of_len (j := 1) hlen (by simp)) (by simpa [Value.cells, Tryd.cellsIntS] using hg 1 _ rfl)
    obtain ⟨x2, rfl, i2⟩ := open_field_int Tryd.underlying3 (isSome_of_len (j := 2) hlen (by simp)) (by simpa [Value.cells, Tryd.cellsIntS] using hg 2 _ rfl)
    obtain ⟨x3, rfl, i3⟩ := open_field_int Tryd.underlying3 (isSome_of_len (j := 3) hlen (by simp)) (by simpa [Value.cells, Tryd.cellsIntS] using hg 3 _ rfl)
    obtain ⟨x4, rfl, i4⟩ := open_field_int Tryd.underlying3 (isSome_of_len (j := 4) hlen (by simp)) (by simpa [Value.cells, Tryd.cellsIntS] using hg 4 _ rfl)
    obtain ⟨x5, rfl, i5⟩ := open_field_int Tryd.underlying3 (isSome_of_len (j := 5) hlen (by simp)) (by simpa [Value.cells, Tryd.cellsIntS] using hg 5 _ rfl)
    obtain ⟨x6, rfl, i6⟩ := open_field_int Tryd.underlying3 (isSome_of_len (j := 6) hlen (by simp)) (by simpa [Value.cells, Tryd.cellsIntS] using hg 6 _ rfl)
    obtain ⟨a', m', k', ys, rfl, hy, hn⟩ := open_field_bytes (isSome_of_len (j := 7) hlen (by simp)) (by simpa [Value.cells, Tryd.cellsBytes] using hg 7 _ rfl)
    exact ⟨⟨x0, x1, x2, x3, x4, x5, x6⟩, a', m', k', ys, rfl, hy, hn, i0, i1, i2, i3, i4, i5, i6⟩
end
/-- One of them, in a later world. -/
theorem IsBools.at {w w' : World} {a : Option Addr} {n : Nat} {bs : List Bool} (h : IsBools w a n bs) (k : Ext w w') (hn : 0 < n) :
    ∃ b off, a = some ⟨b, off, none⟩ ∧ b < w.heap.size ∧ ∀ i, i < n → w'.cell? ⟨b, off + i, none⟩ = some (.bool (bs.getD i false)) := by
  obtain ⟨_, _, h0 | ⟨b, off, rfl, hb, hc⟩⟩ := h
  · omega
  exact ⟨b, off, rfl, hb, fun i hi => (World.cell?_of_block (Below.block k b hb)).trans (hc i hi)⟩
end Go.Proofs.YtkjchddidpjjmaaDoor
