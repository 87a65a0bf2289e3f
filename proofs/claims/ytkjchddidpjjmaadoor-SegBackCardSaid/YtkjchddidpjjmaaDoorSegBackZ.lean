/- The law SegBack: what is written of a segment is read; all sums up to 65535; with a bit turned, or over something else, it is none. Conditions: none (one plain row), but the row's own: errors.errorType holds its handle (tied). -/
import Derived.Test.YtkjchddidpjjmaaDoorRows
import Derived.Test.YtkjchddidpjjmaaDoorBase
import Derived.ProofKit
import Derived.OpenShut
import Derived.ShutString
import Derived.ChangeOld
import Derived.Test.YtkjchddidpjjmaaDoorErr
import Derived.ChangeSame
import Derived.ChangeVars
import Derived.JoinedOf
import Derived.LaidLaws
import Derived.LaidHandle
import Derived.Stop.Joined
import Derived.Test.YtkjchddidpjjmaaDoorIp4
import Derived.Test.YtkjchddidpjjmaaDoorSeg
import Derived.Deep.Slices
import Derived.Test.YtkjchddidpjjmaaDoorSix
import Derived.Test.YtkjchddidpjjmaaDoorSegC6
import Derived.Test.YtkjchddidpjjmaaDoorRefH6
import Derived.Test.YtkjchddidpjjmaaDoorStr
import Derived.Test.YtkjchddidpjjmaaDoorMem
import Derived.Test.YtkjchddidpjjmaaDoorSame
import Derived.Test.YtkjchddidpjjmaaDoorTie
import Derived.Test.YtkjchddidpjjmaaDoorCards
import Derived.SevenTiedAt
import Derived.Deep.DeepCutAuto
/- What an argument of a law is, once it is read: bytes, numbers. Conditions: as each lemma states them. -/
namespace Go.Proofs.YtkjchddidpjjmaaDoor
open Go.ChangeShapes Go.WideShapes Go.ChangeAt Go.RowKit

theorem own : ownKnob Tryd.prog.godebug = none := by kernel_rfl
theorem laidOut : laidOutB Tryd.prog = true := by kernel_rfl

theorem wf_u8 {x : Int} (h : (Lit.int .u8 x).wf = true) : 0 ≤ x ∧ x ≤ 255 := by
  simp [Lit.wf, IntKind.min, IntKind.max, IntKind.signed, IntKind.bits] at h
  omega
theorem wf_i64 {x : Int} (h : (Lit.int .i64 x).wf = true) : -9223372036854775808 ≤ x ∧ x ≤ 9223372036854775807 := by
  simp [Lit.wf, IntKind.min, IntKind.max, IntKind.signed, IntKind.bits] at h
  omega

/-- A slice of bytes that came in. -/
def IsBytes (w : World) (a : Option Addr) (n c : Nat) (xs : List Int) : Prop := Ints .u8 w a n xs ∧ Pl.IsB xs ∧ n ≤ c ∧ c ≤ maxLen
/-- A number that came in. -/
def IsInt (x : Int) : Prop := -9223372036854775808 ≤ x ∧ x ≤ 9223372036854775807

theorem ints_of_cells {k : IntKind} {w : World} {a : Addr} {len cap : Nat} {zs : List Int} (hl : len ≤ cap) (hz : zs.length = cap) (hcell : ∀ i, i < zs.length → w.cell? (a.add i) = some (.int k (zs.getD i 0))) : Ints k w (some a) len (zs.take len) := by
  refine ⟨by rw [List.length_take]; omega, ?_⟩
  rcases Nat.eq_zero_or_pos len with h0 | h0
  · exact .inl h0
  · refine .inr ?_
    obtain ⟨b, off, spot⟩ := a
    have hc := hcell 0 (by omega)
    have hspot : spot = none := by simpa [Addr.add] using World.cell?_spot hc
    subst hspot
    refine ⟨b, off, rfl, fun i hi => ?_⟩
    have h := hcell i (by omega)
    rw [Addr.add_lit] at h
    rw [h]
    simp [List.getD, hi]

theorem open_bytes {H : Type} {enc : TypeId × Value → H} {W : World} {a : Option Addr} {n c : Nat} {d : DataW H} {p : List MemPlace}
    (h : DataW.Trod enc Tryd.prog W 0 (fun _ => true) true 40 (.slice a n c) d p) : ∃ xs, IsBytes W a n c xs := by
  obtain ⟨fuel, hf⟩ := h
  rcases open_ints Tryd.underlying40 Tryd.underlying5 (by kernel_rfl) hf with ⟨hcs, _⟩ | ⟨x, l, c', zs, hcs, _, hl, hm, hz, _, hcell, hwz⟩
  · simp [Value.cells] at hcs
    obtain ⟨rfl, rfl, rfl⟩ := hcs
    exact ⟨[], Ints.nil, Pl.IsB.nil, Nat.le_refl _, Nat.zero_le _⟩
  · simp [Value.cells] at hcs
    obtain ⟨rfl, rfl, rfl⟩ := hcs
    exact ⟨zs.take n, ints_of_cells hl (by simpa using hz) hcell, fun y hy => wf_u8 (hwz y (List.mem_of_mem_take hy)), hl, hm⟩

end Go.Proofs.YtkjchddidpjjmaaDoor
/- What the condition of a tied row gives: the handle in errors.errorType; a world that meets it. After the kit's worked toy 'toyas'. Conditions: as each lemma states them. -/
namespace Go.Proofs.YtkjchddidpjjmaaDoor
open Go.ChangeShapes Go.WideShapes Go.ChangeAt Go.RowKit

def laid : List (String × DataW Unit) := [("errors.errorType", Rows.laid_errors_errorType)]
theorem Tryd.et : Tryd.prog.globalNamed "errors.errorType" = some 0 := by kernel_rfl
theorem Tryd.rt : (Tryd.prog.cutTypes.find? (·.1 == "internal/reflectlite.rtype")).map (·.2) = some 153 := by kernel_rfl
theorem Tryd.oneRow : ((List.range 195).filter fun t => Tryd.prog.rowNamed t [101, 114, 114, 111, 114]) = [28] := by kernel_rfl
theorem Tryd.sizeTypes : Tryd.prog.types.size = 195 := by kernel_rfl

theorem handle_of_laid {W : World} (h : laidMetH Tryd.prog laid W) : Handle W := by
  have h' : laidMet Tryd.prog [] W ∧ handlesMet Tryd.prog laid W := h
  obtain ⟨name, u, ty, e1, e2, e3, e4, e5⟩ := h'.2 _ (List.mem_singleton.2 rfl)
  have en : name = [101, 114, 114, 111, 114] := (Option.some.inj e1).symm
  subst en
  obtain rfl := Option.some.inj (Tryd.rt.symm.trans e2)
  have hm : ty ∈ (List.range 195).filter fun t => Tryd.prog.rowNamed t [101, 114, 114, 111, 114] := List.mem_filter.2 ⟨List.mem_range.2 (by rw [← Tryd.sizeTypes]; exact e3), e4⟩
  rw [Tryd.oneRow] at hm
  obtain rfl := List.mem_singleton.1 hm
  have hh : typeHandle Tryd.prog 28 = .pointer (some ⟨1, 28, none⟩) := by kernel_rfl
  rw [hh] at e5
  have := World.var?_cell Tryd.et e5 0
  unfold Handle
  simpa using this

/-- A world that meets the condition: the settled one, the variable's cell laid. -/
noncomputable def laidWorld (os : Os) : World :=
  let w0 := World.holding Tryd.prog os ⟨#[], #[], []⟩
  { w0 with heap := w0.heap.modify 0 fun
      | .cells _ t frozen => .cells #[.iface 153 (.agg #[.pointer (some ⟨1, 28, none⟩)])] t frozen
      | o => o }
theorem laidWorld_met (os : Os) (args : Array Value) : laidMetH Tryd.prog laid ((laidWorld os).forCall (fun _ _ => 0) ⟨#[], args, []⟩).memory :=
  laidMetH_of_parts (laidMet_nil _ _) (by kernel_rfl)
theorem vars_nil {H : Type} {enc : TypeId × Value → H} {W : World} {gs : List (DataW H)} {q : List MemPlace} (hV : DataW.TrodVars enc Tryd.prog W (fun _ => true) [] gs q) : gs = [] ∧ q = [] := by
  cases gs with
  | nil => exact ⟨rfl, hV⟩
  | cons g r => exact absurd hV (by intro h; cases h)
end Go.Proofs.YtkjchddidpjjmaaDoor
/- What an argument that is a struct is, once it is read: each number and slice in it. Conditions: as each lemma states them. -/
namespace Go.Proofs.YtkjchddidpjjmaaDoor
open Go.ChangeShapes Go.WideShapes Go.ChangeAt Go.RowKit

section
variable {H : Type} {enc : TypeId × Value → H} {W : World}

theorem open_field_int {n : Nat} {t : TypeId} (ht : Tryd.prog.underlying t = some (.int .i64)) {c : Value} {y : Option (DataW H × List MemPlace)} (hy : y.isSome = true) (h : DataW.trod enc Tryd.prog W 0 (fun _ => true) true n t [c] = y) : ∃ x, c = .int .i64 x ∧ IsInt x := by
  obtain ⟨y, rfl⟩ := Option.isSome_iff_exists.1 hy
  obtain ⟨x, hx, _, hw⟩ := DataW.trod_int ht h
  exact ⟨x, by simpa using hx, wf_i64 hw⟩
theorem open_field_bytes {n : Nat} {c : Value} {y : Option (DataW H × List MemPlace)} (hy : y.isSome = true) (h : DataW.trod enc Tryd.prog W 0 (fun _ => true) true n 40 [c] = y) : ∃ a l k xs, c = .slice a l k ∧ IsBytes W a l k xs ∧ (a = none → k = 0) := by
  obtain ⟨y, rfl⟩ := Option.isSome_iff_exists.1 hy
  rcases open_ints Tryd.underlying40 Tryd.underlying5 (by kernel_rfl) h with ⟨hcs, _⟩ | ⟨x, l, c', zs, hcs, _, hl, hm, hz, _, hcell, hwz⟩
  · obtain rfl : c = .slice none 0 0 := by simpa using hcs
    exact ⟨none, 0, 0, [], rfl, ⟨Ints.nil, Pl.IsB.nil, Nat.le_refl _, Nat.zero_le _⟩, fun _ => rfl⟩
  · obtain rfl : c = .slice (some x) l c' := by simpa using hcs
    exact ⟨some x, l, c', zs.take l, rfl, ⟨ints_of_cells hl (by simpa using hz) hcell, fun y hy => wf_u8 (hwz y (List.mem_of_mem_take hy)), hl, hm⟩, fun h => by cases h⟩

theorem isSome_of_len {α : Type} {xs : List α} {n j : Nat} (h : xs.length = n) (hj : j < n) : (xs[j]?).isSome = true := by
  rw [List.getElem?_eq_getElem (by omega)]; rfl

set_option maxRecDepth 100000 in
/-- A packet of fours that came in. -/
theorem open_pack4 {v : Value} {d : DataW H} {p : List MemPlace} {base : Nat} (hv : Value.okWide Tryd.prog W .any base 74 v) (h : DataW.Trod enc Tryd.prog W 0 (fun _ => true) true 74 v d p) :
    ∃ s d t k i a l c xs, v = pk4 s d t k i (.slice a l c) ∧ (IsInt s ∧ IsInt d ∧ IsInt t ∧ IsInt k ∧ IsInt i) ∧ IsBytes W a l c xs ∧ (a = none → c = 0) := by
  obtain ⟨cs, rfl, hsz⟩ := okWide_struct Tryd.underlying74 hv
  obtain ⟨l⟩ := cs
  have hC : Tryd.prog.cellsOf 74 = 6 := by kernel_rfl
  have hI : Tryd.prog.cellsOf 3 = 1 := by kernel_rfl
  have hB : Tryd.prog.cellsOf 40 = 1 := by kernel_rfl
  match l, hsz.trans hC with
  | [c0, c1, c2, c3, c4, c5], _ =>
    obtain ⟨fuel, hf⟩ := h
    obtain ⟨xs, n, _, _, _, hlen, hg⟩ := DataW.trod_struct Tryd.underlying74 hf
    have e0 : DataW.trod enc Tryd.prog W 0 (fun _ => true) true n 3 [c0] = xs[0]? := by simpa [Value.cells, hI] using hg 0 _ rfl
    have e1 : DataW.trod enc Tryd.prog W 0 (fun _ => true) true n 3 [c1] = xs[1]? := by simpa [Value.cells, hI] using hg 1 _ rfl
    have e2 : DataW.trod enc Tryd.prog W 0 (fun _ => true) true n 3 [c2] = xs[2]? := by simpa [Value.cells, hI] using hg 2 _ rfl
    have e3 : DataW.trod enc Tryd.prog W 0 (fun _ => true) true n 3 [c3] = xs[3]? := by simpa [Value.cells, hI] using hg 3 _ rfl
    have e4 : DataW.trod enc Tryd.prog W 0 (fun _ => true) true n 3 [c4] = xs[4]? := by simpa [Value.cells, hI] using hg 4 _ rfl
    have e5 : DataW.trod enc Tryd.prog W 0 (fun _ => true) true n 40 [c5] = xs[5]? := by simpa [Value.cells, hB] using hg 5 _ rfl
    obtain ⟨x0, rfl, i0⟩ := open_field_int Tryd.underlying3 (isSome_of_len hlen (by simp)) e0
    obtain ⟨x1, rfl, i1⟩ := open_field_int Tryd.underlying3 (isSome_of_len hlen (by simp)) e1
    obtain ⟨x2, rfl, i2⟩ := open_field_int Tryd.underlying3 (isSome_of_len hlen (by simp)) e2
    obtain ⟨x3, rfl, i3⟩ := open_field_int Tryd.underlying3 (isSome_of_len hlen (by simp)) e3
    obtain ⟨x4, rfl, i4⟩ := open_field_int Tryd.underlying3 (isSome_of_len hlen (by simp)) e4
    obtain ⟨a, m, k, ys, rfl, hy, hn⟩ := open_field_bytes (isSome_of_len hlen (by simp)) e5
    exact ⟨x0, x1, x2, x3, x4, a, m, k, ys, rfl, ⟨i0, i1, i2, i3, i4⟩, hy, hn⟩
end
end Go.Proofs.YtkjchddidpjjmaaDoor
/- What an argument is, once it is read: lists of segments. Conditions: as each lemma states them. -/
namespace Go.Proofs.YtkjchddidpjjmaaDoor
open Go.ChangeShapes Go.WideShapes Go.ChangeAt Go.RowKit

/-- A segment and where its bytes lie. -/
structure Sd where
  s : Sg
  a : Option Addr
  n : Nat
  c : Nat
  xs : List Int
def Sd.d (x : Sd) : Value := .slice x.a x.n x.c
instance : Inhabited Sd := ⟨⟨⟨0, 0, 0, 0, 0, 0, 0⟩, none, 0, 0, []⟩⟩
def Sd.Is (w : World) (x : Sd) : Prop := IsBytes w x.a x.n x.c x.xs ∧ (x.a = none → x.c = 0) ∧ IsInt x.s.kind ∧ IsInt x.s.frm ∧ IsInt x.s.to ∧ IsInt x.s.seq ∧ IsInt x.s.ack ∧ IsInt x.s.flags ∧ IsInt x.s.win
/-- Segments that came in. -/
def IsSegs (w : World) (a : Option Addr) (n c : Nat) (ss : List Sd) : Prop :=
  ss.length = n ∧ n ≤ c ∧ c ≤ maxLen ∧ (n = 0 ∨ ∃ b off, a = some ⟨b, off, none⟩ ∧ ∀ i, i < n → (ss.getD i default).Is w ∧ ∀ j, j < 8 → w.cell? ⟨b, off + (i * 8 + j), none⟩ = ((ss.getD i default).s.cells (ss.getD i default).d)[j]?)

section
variable {H : Type} {enc : TypeId × Value → H} {W : World}
theorem Tryd.cellsIntS : Tryd.prog.cellsOf 3 = 1 := by kernel_rfl
theorem Tryd.cellsBytes : Tryd.prog.cellsOf 40 = 1 := by kernel_rfl
theorem Tryd.cellsSeg : Tryd.prog.cellsOf 50 = 8 := by kernel_rfl
/-- A slice of bytes that came in; nil has no room. -/
theorem open_bytesz {a : Option Addr} {n c : Nat} {d : DataW H} {p : List MemPlace}
    (h : DataW.Trod enc Tryd.prog W 0 (fun _ => true) true 40 (.slice a n c) d p) : ∃ xs, IsBytes W a n c xs ∧ (a = none → c = 0) := by
  obtain ⟨fuel, hf⟩ := h
  obtain ⟨a', l, k, xs, hv, hb, hn⟩ := open_field_bytes rfl (by simpa [Value.cells] using hf)
  obtain ⟨rfl, rfl, rfl⟩ : a = a' ∧ n = l ∧ c = k := by simpa using hv
  exact ⟨xs, hb, hn⟩
/-- Numbers that came in. -/
def IsIntsl (w : World) (a : Option Addr) (n c : Nat) (xs : List Int) : Prop := Ints .i64 w a n xs ∧ (∀ x ∈ xs, IsInt x) ∧ n ≤ c ∧ c ≤ maxLen
theorem open_intsl {a : Option Addr} {n c : Nat} {d : DataW H} {p : List MemPlace}
    (h : DataW.Trod enc Tryd.prog W 0 (fun _ => true) true 107 (.slice a n c) d p) : ∃ xs, IsIntsl W a n c xs := by
  obtain ⟨fuel, hf⟩ := h
  rcases open_ints Tryd.underlying107 Tryd.underlying3 (by kernel_rfl) hf with ⟨hcs, _⟩ | ⟨x, l, c', zs, hcs, _, hl, hm, hz, _, hcell, hwz⟩
  · simp [Value.cells] at hcs
    obtain ⟨rfl, rfl, rfl⟩ := hcs
    exact ⟨[], Ints.nil, (by simp), Nat.le_refl _, Nat.zero_le _⟩
  · simp [Value.cells] at hcs
    obtain ⟨rfl, rfl, rfl⟩ := hcs
    exact ⟨zs.take n, ints_of_cells hl (by simpa using hz) hcell, fun y hy => wf_i64 (hwz y (List.mem_of_mem_take hy)), hl, hm⟩
set_option maxRecDepth 100000 in
theorem open_segs {a : Option Addr} {n c : Nat} {d : DataW H} {p : List MemPlace}
    (h : DataW.Trod enc Tryd.prog W 0 (fun _ => true) true 41 (.slice a n c) d p) : ∃ ss, IsSegs W a n c ss := by
  obtain ⟨fuel, hf⟩ := h
  rcases Go.Deep.open_slice Tryd.underlying41 hf with ⟨hcs, _⟩ | ⟨x, l, c', m, n', D, P, hcs, _, hl, hm, hmm, _, hx⟩
  · simp [Value.cells] at hcs
    obtain ⟨rfl, rfl, rfl⟩ := hcs
    exact ⟨[], rfl, Nat.le_refl _, Nat.zero_le _, .inl rfl⟩
  · simp [Value.cells] at hcs
    obtain ⟨rfl, rfl, rfl⟩ := hcs
    simp only [if_true] at hmm
    subst hmm
    obtain ⟨b, off, spot⟩ := x
    have key : ∀ i, i < m → ∃ y : Sd, y.Is W ∧ ∀ j, j < 8 → W.cell? ((Addr.mk b off spot).add (i * 8 + j)) = (y.s.cells y.d)[j]? := fun i hi => by
      obtain ⟨cs', hc', ht⟩ := hx i hi
      rw [Tryd.cellsSeg] at hc'
      obtain ⟨xs, q, _, _, hl', hlen, hg⟩ := DataW.trod_struct Tryd.underlying50 ht
      obtain ⟨_, hcl, hat⟩ := World.cells?_some hc'
      match cs', hl'.trans Tryd.cellsSeg with
      | [c0, c1, c2, c3, c4, c5, c6, c7], _ =>
        obtain ⟨x0, rfl, i0⟩ := open_field_int Tryd.underlying3 (isSome_of_len (j := 0) hlen (by simp)) (by simpa [Tryd.cellsIntS] using hg 0 _ rfl)
        obtain ⟨x1, rfl, i1⟩ := open_field_int Tryd.underlying3 (isSome_of_len (j := 1) hlen (by simp)) (by simpa [Tryd.cellsIntS] using hg 1 _ rfl)
        obtain ⟨x2, rfl, i2⟩ := open_field_int Tryd.underlying3 (isSome_of_len (j := 2) hlen (by simp)) (by simpa [Tryd.cellsIntS] using hg 2 _ rfl)
        obtain ⟨x3, rfl, i3⟩ := open_field_int Tryd.underlying3 (isSome_of_len (j := 3) hlen (by simp)) (by simpa [Tryd.cellsIntS] using hg 3 _ rfl)
        obtain ⟨x4, rfl, i4⟩ := open_field_int Tryd.underlying3 (isSome_of_len (j := 4) hlen (by simp)) (by simpa [Tryd.cellsIntS] using hg 4 _ rfl)
        obtain ⟨x5, rfl, i5⟩ := open_field_int Tryd.underlying3 (isSome_of_len (j := 5) hlen (by simp)) (by simpa [Tryd.cellsIntS] using hg 5 _ rfl)
        obtain ⟨x6, rfl, i6⟩ := open_field_int Tryd.underlying3 (isSome_of_len (j := 6) hlen (by simp)) (by simpa [Tryd.cellsIntS] using hg 6 _ rfl)
        obtain ⟨a', m', k', ys, rfl, hy, hn⟩ := open_field_bytes (isSome_of_len (j := 7) hlen (by simp)) (by simpa [Tryd.cellsBytes] using hg 7 _ rfl)
        refine ⟨⟨⟨x0, x1, x2, x3, x4, x5, x6⟩, a', m', k', ys⟩, ⟨hy, hn, i0, i1, i2, i3, i4, i5, i6⟩, fun j hj => ?_⟩
        rw [← Go.Deep.add_add, hat j hj]
        simp [Sg.cells, Sd.d]
    obtain ⟨F, hF⟩ := Go.Deep.choose_lt key
    refine ⟨(List.range n).map F, by simp, hl, hm, ?_⟩
    rcases Nat.eq_zero_or_pos n with h0 | h0
    · exact .inl h0
    · refine .inr ?_
      have hspot : spot = none := by
        have := (hF 0 (by omega)).2 0 (by omega)
        simpa [Addr.add] using World.cell?_spot this
      subst hspot
      refine ⟨b, off, rfl, fun i hi => ?_⟩
      have e : ((List.range n).map F).getD i default = F i := by simp [List.getD, hi]
      rw [e]
      have q := hF i (by omega)
      exact ⟨q.1, fun j hj => by have := q.2 j hj; rw [Addr.add_lit] at this; exact this⟩
end

theorem IsBytes.ext {w w' : World} {a : Option Addr} {n c : Nat} {xs : List Int} (h : IsBytes w a n c xs) (k : Ext w w') : IsBytes w' a n c xs := ⟨h.1.ext k, h.2.1, h.2.2.1, h.2.2.2⟩
/-- One of them, in a later world. -/
theorem IsSegs.at {w w' : World} {a : Option Addr} {n c : Nat} {ss : List Sd} (h : IsSegs w a n c ss) (k : Ext w w') (hn : 0 < n) :
    ∃ b off, a = some ⟨b, off, none⟩ ∧ b < w.heap.size ∧ ∀ i, i < n → (ss.getD i default).Is w' ∧ ∀ j, j < 8 → w'.cell? ⟨b, off + (i * 8 + j), none⟩ = ((ss.getD i default).s.cells (ss.getD i default).d)[j]? := by
  obtain ⟨_, _, _, h0 | ⟨b, off, rfl, hc⟩⟩ := h
  · omega
  have hb : b < w.heap.size := by
    have := (hc 0 hn).2 0 (by omega)
    exact World.block_lt_of_cell? w _ (this.trans (by simp [Sg.cells]; rfl))
  refine ⟨b, off, rfl, hb, fun i hi => ⟨⟨(hc i hi).1.1.ext k, (hc i hi).1.2⟩, fun j hj => ?_⟩⟩
  rw [World.cell?_of_block (Below.block k b hb)]
  exact (hc i hi).2 j hj
/-- A whole segment, loaded. -/
theorem load_seg {w : World} {b off : Nat} (s : Sg) (d : Value) (h : ∀ j, j < 8 → w.cell? ⟨b, off + j, none⟩ = (s.cells d)[j]?) :
    (Instr.loadAt 50 (.pointer (some ⟨b, off, none⟩))).run Tryd.prog w = .ok (.agg (s.cells d)) w := by
  have := run_loadAt_mid (P := Tryd.prog) w b off 50 (s.cells d).toList _ (fun j v hv => by
    rw [Array.getElem?_toList] at hv
    rw [h j (by have := (Array.getElem?_eq_some_iff.1 hv).1; simpa [Sg.cells] using this)]; exact hv) Tryd.underlying50 rfl Tryd.sizeSeg
  rw [Array.toArray_toList] at this
  exact this
end Go.Proofs.YtkjchddidpjjmaaDoor
/- What an argument is, once it is read: an address. Conditions: as each lemma states them. -/
namespace Go.Proofs.YtkjchddidpjjmaaDoor
open Go.ChangeShapes Go.WideShapes Go.ChangeAt Go.RowKit

def Six.Is (s : Six) : Prop := ∀ k, IsInt (s.l.getD k 0)

section
variable {H : Type} {enc : TypeId × Value → H} {W : World}

theorem open_cell_int {n : Nat} {c : Value} {y : Option (DataW H × List MemPlace)} (hy : y.isSome = true) (h : DataW.trod enc Tryd.prog W 0 (fun _ => true) true n 3 [c] = y) : ∃ x, c = .int .i64 x ∧ IsInt x := by
  obtain ⟨y, rfl⟩ := Option.isSome_iff_exists.1 hy
  obtain ⟨x, hx, _, hw⟩ := DataW.trod_int Tryd.underlying3 h
  exact ⟨x, by simpa using hx, wf_i64 hw⟩
theorem isSome_at {α : Type} {xs : List α} {n j : Nat} (h : xs.length = n) (hj : j < n) : (xs[j]?).isSome = true := by
  rw [List.getElem?_eq_getElem (by omega)]; rfl

theorem Tryd.cellsInt : Tryd.prog.cellsOf 3 = 1 := by kernel_rfl
theorem Tryd.cellsSix : Tryd.prog.cellsOf 23 = 8 := by kernel_rfl

set_option maxRecDepth 100000 in
theorem open_cells_six {n : Nat} {cs : List Value} {y : Option (DataW H × List MemPlace)} (hy : y.isSome = true) (h : DataW.trod enc Tryd.prog W 0 (fun _ => true) true n 23 cs = y) : ∃ s : Six, cs = s.cells.toList ∧ s.Is := by
  obtain ⟨y, rfl⟩ := Option.isSome_iff_exists.1 hy
  obtain ⟨xs, m, _, _, hl, hlen, hg⟩ := DataW.trod_array Tryd.underlying23 h
  match cs, hl.trans Tryd.cellsSix with
  | [c0, c1, c2, c3, c4, c5, c6, c7], _ =>
    obtain ⟨x0, rfl, i0⟩ := open_cell_int (isSome_at (j := 0) hlen (by omega)) (by simpa [Tryd.cellsInt] using hg 0 (by omega))
    obtain ⟨x1, rfl, i1⟩ := open_cell_int (isSome_at (j := 1) hlen (by omega)) (by simpa [Tryd.cellsInt] using hg 1 (by omega))
    obtain ⟨x2, rfl, i2⟩ := open_cell_int (isSome_at (j := 2) hlen (by omega)) (by simpa [Tryd.cellsInt] using hg 2 (by omega))
    obtain ⟨x3, rfl, i3⟩ := open_cell_int (isSome_at (j := 3) hlen (by omega)) (by simpa [Tryd.cellsInt] using hg 3 (by omega))
    obtain ⟨x4, rfl, i4⟩ := open_cell_int (isSome_at (j := 4) hlen (by omega)) (by simpa [Tryd.cellsInt] using hg 4 (by omega))
    obtain ⟨x5, rfl, i5⟩ := open_cell_int (isSome_at (j := 5) hlen (by omega)) (by simpa [Tryd.cellsInt] using hg 5 (by omega))
    obtain ⟨x6, rfl, i6⟩ := open_cell_int (isSome_at (j := 6) hlen (by omega)) (by simpa [Tryd.cellsInt] using hg 6 (by omega))
    obtain ⟨x7, rfl, i7⟩ := open_cell_int (isSome_at (j := 7) hlen (by omega)) (by simpa [Tryd.cellsInt] using hg 7 (by omega))
    refine ⟨⟨x0, x1, x2, x3, x4, x5, x6, x7⟩, rfl, fun k => ?_⟩
    match k with
    | 0 => exact i0
    | 1 => exact i1
    | 2 => exact i2
    | 3 => exact i3
    | 4 => exact i4
    | 5 => exact i5
    | 6 => exact i6
    | 7 => exact i7
    | k + 8 => simp [Six.l, IsInt]

set_option maxRecDepth 100000 in
/-- An address that came in. -/
theorem open_six {v : Value} {d : DataW H} {p : List MemPlace} {base : Nat} (hv : Value.okWide Tryd.prog W .any base 23 v) (h : DataW.Trod enc Tryd.prog W 0 (fun _ => true) true 23 v d p) : ∃ s : Six, v = s.v ∧ s.Is := by
  obtain ⟨fuel, hf⟩ := h
  obtain ⟨s, hs, hi⟩ := open_cells_six rfl hf
  simp only [Value.okWide, Tryd.underlying23] at hv
  obtain ⟨cs, rfl, _⟩ := hv
  refine ⟨s, ?_, hi⟩
  have : cs.toList = s.cells.toList := by simpa [Value.cells] using hs
  rw [Array.toList_inj.1 this]

end
end Go.Proofs.YtkjchddidpjjmaaDoor
/- What an argument is, once it is read: a segment; a list of truths. Conditions: as each lemma states them. -/
namespace Go.Proofs.YtkjchddidpjjmaaDoor
open Go.ChangeShapes Go.WideShapes Go.ChangeAt Go.RowKit

/-- Truths that came in. -/
def IsBools (w : World) (a : Option Addr) (n : Nat) (bs : List Bool) : Prop :=
  bs.length = n ∧ n ≤ maxLen ∧ (n = 0 ∨ ∃ b off, a = some ⟨b, off, none⟩ ∧ b < w.heap.size ∧ ∀ i, i < n → w.cell? ⟨b, off + i, none⟩ = some (.bool (bs.getD i false)))
section
theorem Tryd.cellsTruth : Tryd.prog.cellsOf 4 = 1 := by kernel_rfl
variable {H : Type} {enc : TypeId × Value → H} {W : World}
theorem open_cell_truth {n : Nat} {c : Value} {y : Option (DataW H × List MemPlace)} (hy : y.isSome = true) (h : DataW.trod enc Tryd.prog W 0 (fun _ => true) true n 4 [c] = y) : ∃ x, c = .bool x := by
  obtain ⟨y, rfl⟩ := Option.isSome_iff_exists.1 hy
  obtain ⟨x, hx, _⟩ := DataW.trod_bool Tryd.underlying4 h
  exact ⟨x, by simpa using hx⟩
set_option maxRecDepth 100000 in
theorem open_bools {a : Option Addr} {n c : Nat} {d : DataW H} {p : List MemPlace}
    (h : DataW.Trod enc Tryd.prog W 0 (fun _ => true) true 42 (.slice a n c) d p) : ∃ bs, IsBools W a n bs := by
  obtain ⟨fuel, hf⟩ := h
  rcases Go.Deep.open_slice Tryd.underlying42 hf with ⟨hcs, _⟩ | ⟨x, l, c', m, n', D, P, hcs, _, hl, hm, hmm, _, hx⟩
  · simp [Value.cells] at hcs
    obtain ⟨rfl, rfl, rfl⟩ := hcs
    exact ⟨[], rfl, Nat.zero_le _, .inl rfl⟩
  · simp [Value.cells] at hcs
    obtain ⟨rfl, rfl, rfl⟩ := hcs
    simp only [if_true] at hmm
    subst hmm
    obtain ⟨b, off, spot⟩ := x
    have key : ∀ i, i < m → ∃ y : Bool, W.cell? ((Addr.mk b off spot).add i) = some (.bool y) := fun i hi => by
      obtain ⟨cs', hc', ht⟩ := hx i hi
      rw [Tryd.cellsTruth] at hc'
      obtain ⟨_, hcl, hat⟩ := World.cells?_some hc'
      match cs', hcl with
      | [c0], _ =>
        obtain ⟨y, rfl⟩ := open_cell_truth rfl ht
        refine ⟨y, ?_⟩
        have := hat 0 (by omega)
        rw [Go.Deep.add_add] at this
        simpa using this
    obtain ⟨F, hF⟩ := Go.Deep.choose_lt key
    refine ⟨(List.range n).map F, by simp, by omega, ?_⟩
    rcases Nat.eq_zero_or_pos n with h0 | h0
    · exact .inl h0
    · refine .inr ?_
      have hspot : spot = none := by
        have := hF 0 (by omega)
        simpa [Addr.add] using World.cell?_spot this
      subst hspot
      refine ⟨b, off, rfl, ?_, fun i hi => ?_⟩
      · have := hF 0 (by omega)
        exact World.block_lt_of_cell? W _ this
      have e : ((List.range n).map F).getD i false = F i := by simp [List.getD, hi]
      rw [e]
      have q := hF i (by omega)
      rw [Addr.add_lit] at q
      exact q
set_option maxRecDepth 100000 in
/-- A segment that came in. -/
theorem open_seg {v : Value} {d : DataW H} {p : List MemPlace} {base : Nat} (hv : Value.okWide Tryd.prog W .any base 50 v) (h : DataW.Trod enc Tryd.prog W 0 (fun _ => true) true 50 v d p) :
    ∃ (s : Sg) (a : Option Addr) (l c : Nat) (xs : List Int), v = s.v (.slice a l c) ∧ Sd.Is W ⟨s, a, l, c, xs⟩ := by
  obtain ⟨cs, rfl, hsz⟩ := okWide_struct Tryd.underlying50 hv
  obtain ⟨l⟩ := cs
  match l, hsz.trans Tryd.cellsSeg with
  | [c0, c1, c2, c3, c4, c5, c6, c7], _ =>
    obtain ⟨fuel, hf⟩ := h
    obtain ⟨xs, n, _, _, _, hlen, hg⟩ := DataW.trod_struct Tryd.underlying50 hf
    obtain ⟨x0, rfl, i0⟩ := open_field_int Tryd.underlying3 (isSome_of_len (j := 0) hlen (by simp)) (by simpa [Value.cells, Tryd.cellsIntS] using hg 0 _ rfl)
    obtain ⟨x1, rfl, i1⟩ := open_field_int Tryd.underlying3 (isSome_of_len (j := 1) hlen (by simp)) (by simpa [Value.cells, Tryd.cellsIntS] using hg 1 _ rfl)
    obtain ⟨x2, rfl, i2⟩ := open_field_int Tryd.underlying3 (isSome_of_len (j := 2) hlen (by simp)) (by simpa [Value.cells, Tryd.cellsIntS] using hg 2 _ rfl)
    obtain ⟨x3, rfl, i3⟩ := open_field_int Tryd.underlying3 (isSome_of_len (j := 3) hlen (by simp)) (by simpa [Value.cells, Tryd.cellsIntS] using hg 3 _ rfl)
    obtain ⟨x4, rfl, i4⟩ := open_field_int Tryd.underlying3 (isSome_of_len (j := 4) hlen (by simp)) (by simpa [Value.cells, Tryd.cellsIntS] using hg 4 _ rfl)
    obtain ⟨x5, rfl, i5⟩ := open_field_int Tryd.underlying3 (isSome_of_len (j := 5) hlen (by simp)) (by simpa [Value.cells, Tryd.cellsIntS] using hg 5 _ rfl)
    obtain ⟨x6, rfl, i6⟩ := open_field_int Tryd.underlying3 (isSome_of_len (j := 6) hlen (by simp)) (by simpa [Value.cells, Tryd.cellsIntS] using hg 6 _ rfl)
    obtain ⟨a', m', k', ys, rfl, hy, hn⟩ := open_field_bytes (isSome_of_len (j := 7) hlen (by simp)) (by simpa [Value.cells, Tryd.cellsBytes] using hg 7 _ rfl)
    exact ⟨⟨x0, x1, x2, x3, x4, x5, x6⟩, a', m', k', ys, rfl, hy, hn, i0, i1, i2, i3, i4, i5, i6⟩
end
/-- One of them, in a later world. -/
theorem IsBools.at {w w' : World} {a : Option Addr} {n : Nat} {bs : List Bool} (h : IsBools w a n bs) (k : Ext w w') (hn : 0 < n) :
    ∃ b off, a = some ⟨b, off, none⟩ ∧ b < w.heap.size ∧ ∀ i, i < n → w'.cell? ⟨b, off + i, none⟩ = some (.bool (bs.getD i false)) := by
  obtain ⟨_, _, h0 | ⟨b, off, rfl, hb, hc⟩⟩ := h
  · omega
  exact ⟨b, off, rfl, hb, fun i hi => (World.cell?_of_block (Below.block k b hb)).trans (hc i hi)⟩
end Go.Proofs.YtkjchddidpjjmaaDoor
/- seg.Decode and the document's SegOf of any bytes, any kind. Conditions: as each theorem states them. -/
namespace Go.Proofs.YtkjchddidpjjmaaDoor
open Go.RowKit
theorem sdecode_any (k : Int) (a : Option Addr) (n c : Nat) (xs : List Int) (over : Int) (w : World) (hr : Ints .u8 w a n xs) (hb : Pl.IsB xs) (hnc : n ≤ c) (hc : a = none → c = 0) :
    Calls Tryd.prog 34 #[.int .i64 k, .slice a n c, .int .i64 over] w (DecGot k xs over w) := by
  by_cases hk : k = 6 ∨ k = 17
  case neg => exact sdecode_bad k a n c xs over w (.inl hk)
  by_cases ho : Pl.Word over
  case neg => exact sdecode_bad k a n c xs over w (.inr ho)
  rcases hk with rfl | rfl
  · by_cases h0 : 20 ≤ n ∧ n ≤ 320
    · exact sdecode_core6 a n c xs over w hr hb hnc hc ho h0.1 h0.2
    · exact sdecode_short6 a n c xs over w hr ho (by omega)
  · by_cases h0 : 8 ≤ n ∧ n ≤ 308
    · exact sdecode_core17 a n c xs over w hr hb hnc hc ho h0.1 h0.2
    · exact sdecode_short17 a n c xs over w hr ho (by omega)
theorem rsegOf_any (k : Int) (a : Option Addr) (n c : Nat) (xs : List Int) (over : Int) (w : World) (hr : Ints .u8 w a n xs) (hb : Pl.IsB xs) (hnc : n ≤ c) (hc : a = none → c = 0) :
    Calls Tryd.prog 33 #[.int .i64 k, .slice a n c, .int .i64 over] w (RDecGot k xs over w) := by
  by_cases hk : k = 6 ∨ k = 17
  case neg => exact rsegOf_bad k a n c xs over w (.inl hk)
  by_cases ho : Pl.Word over
  case neg => exact rsegOf_bad k a n c xs over w (.inr ho)
  rcases hk with rfl | rfl
  · by_cases h0 : 20 ≤ n ∧ n ≤ 320
    · exact rsegOf_core6 a n c xs over w hr hb hnc hc ho h0.1 h0.2
    · exact rsegOf_short6 a n c xs over w hr ho (by omega)
  · by_cases h0 : 8 ≤ n ∧ n ≤ 308
    · exact rsegOf_core17 a n c xs over w hr hb hnc hc ho h0.1 h0.2
    · exact rsegOf_short17 a n c xs over w hr ho (by omega)
/-- Bytes, when another block is written anew. -/
theorem Ints.keepRow {k : IntKind} {w : World} {a : Option Addr} {n : Nat} {xs : List Int} (h : Ints k w a n xs) (g : Nat) (cs : Array Value) (hg : 0 < n → ∀ p, a = some p → p.block ≠ g) : Ints k (w.setRow g cs) a n xs := by
  by_cases hn : 0 < n
  · obtain ⟨b, off, rfl, hb, hc⟩ := h.at hn
    exact ⟨h.1, .inr ⟨b, off, rfl, fun i hi => (World.cell?_of_block (setRow_other w g b cs (hg hn _ rfl))).trans (hc i hi)⟩⟩
  · obtain rfl : n = 0 := by omega
    obtain rfl : xs = [] := List.length_eq_zero_iff.1 h.len
    exact Ints.nil
/-- A load whose run is known, in a region. -/
theorem exec_load {P : Program} {ρ : Operand → Value} {o : Oper} {w : World} {v : Value} {p : Addr} {ty : TypeId} {x : Operand} (ho : o.op = .load ty x) (hx : ρ x = .pointer (some p)) (h : (Instr.loadAt ty (.pointer (some p))).run P w = .ok v w) :
    (execOp ρ o).run P w = .ok (.value v) w := by
  unfold execOp
  simp only [ho, hx, Sem.run_bind, h, Result.andThen_ok, Sem.run_pure]
/-- The fault, as both tell it. -/
theorem chk_any (s : Sg) (a : Option Addr) (n c : Nat) (w : World) : Calls Tryd.prog 28 #[s.v (.slice a n c)] w fun e w' => e = .returned (erv (Pl.segFault s n)) ∧ Ext w w' :=
  (scheck_any s a n c w).mono fun _ _ ⟨h, q⟩ => ⟨h, q⟩
end Go.Proofs.YtkjchddidpjjmaaDoor
/- The contract of gangplanksame.Segs, of two that are the same. Conditions: as each theorem states them. -/
namespace Go.Proofs.YtkjchddidpjjmaaDoor
open Go.RowKit
set_option maxRecDepth 100000 in
set_option maxHeartbeats 1000000 in
theorem segs_yes (s : Sg) (a a' : Option Addr) (n c n' c' : Nat) (xs : List Int) (w : World) (h1 : Ints .u8 w a n xs) (h2 : Ints .u8 w a' n' xs) :
    Calls Tryd.prog 24 #[s.v (.slice a n c), s.v (.slice a' n' c')] w fun e w' => e = .returned (.bool true) ∧ Ext w w' := by
  have K1 := (Blk.new w 50 (s.cells (.slice a n c))).alloc (.cells (s.cells (.slice a' n' c')) 50)
  have K2 := Blk.new (w.alloc (.cells (s.cells (.slice a n c)) 50)) 50 (s.cells (.slice a' n' c'))
  simp only [World.size_alloc] at K2
  have E2 := ((Ext.refl w).alloc (.cells (s.cells (.slice a n c)) 50)).alloc (.cells (s.cells (.slice a' n' c')) 50)
  have k1 := conv_str (c := c) (h1.ext E2)
  have k2 := conv_str (c := c') (h2.ext E2)
  obtain ⟨m0, m1, m2, m3, m4, m5, m6, m7⟩ := K1.sg
  obtain ⟨n0, n1, n2, n3, n4, n5, n6, n7⟩ := K2.sg
  have HE := Lib.hid E2
  generalize strOfNums xs = z at k1 k2
  clear h1 h2 E2 K1 K2
  go_enter Tryd.func24, Tryd.ntmps24
  go_wp2_with fail
  go_ret
  exact ⟨by simp, HE.out⟩
end Go.Proofs.YtkjchddidpjjmaaDoor
/- A bit of a byte turned: the byte is a power of two more or less. Conditions: as each lemma states them. -/
namespace Go.Proofs.YtkjchddidpjjmaaDoor
open Go.RowKit

theorem Ints.head {k : IntKind} {w : World} {b off n : Nat} {xs : List Int} (h : Ints k w (some ⟨b, off, none⟩) n xs) (m : Nat) (hm : m ≤ n) : Ints k w (some ⟨b, off, none⟩) m (xs.take m) := by
  have := h.sub 0 m (Nat.zero_le _) hm
  simpa using this

def Turned (x y p : Int) : Prop := (y = x + p ∨ y = x - p) ∧ 0 ≤ y ∧ y ≤ 255
instance (x y p : Int) : Decidable (Turned x y p) := by unfold Turned; infer_instance
theorem turn_all : ∀ x : Fin 256, ∀ m : Fin 8, Turned (x.val : Int) (bits .xor .u8 (x.val : Int) (2 ^ m.val)) (2 ^ m.val) := by decide +kernel
theorem turn (x : Int) (h0 : 0 ≤ x) (h1 : x ≤ 255) (m : Nat) (hm : m < 8) : Turned x (bits .xor .u8 x (2 ^ m)) (2 ^ m) := by
  have h := turn_all ⟨x.toNat, by omega⟩ ⟨m, hm⟩
  simp only [Int.toNat_of_nonneg h0] at h
  exact h
end Go.Proofs.YtkjchddidpjjmaaDoor
/- A part of bytes, under one name. Conditions: as each lemma states them. -/
namespace Go.Proofs.YtkjchddidpjjmaaDoor
open Go.RowKit
theorem Tryd.elemBytes : Tryd.prog.elem 40 = 5 := by kernel_rfl
theorem Tryd.sizeByte : ∀ w : World, (sizeOf 5).run Tryd.prog w = .ok 1 w := fun w => by kernel_rfl

/-- x[lo:hi]. -/
theorem slice_bytes (a : Option Addr) (n c lo len : Nat) (i j : Int) (hi0 : i = lo) (hj0 : j = ((lo + len : Nat) : Int)) (hhi : lo + len ≤ n) (hnc : n ≤ c) (hn : a = none → c = 0) :
    ∃ AA cc, (∀ (w : World) (xs : List Int), Ints .u8 w a n xs → Ints .u8 w AA len ((xs.drop lo).take len)) ∧ (AA = none → cc = 0) ∧ len ≤ cc ∧
      ∀ W : World, (Instr.slice 40 (.slice a n c) (some (.int .i64 i)) (some (.int .i64 j)) none).run Tryd.prog W = .ok (.slice AA len cc) W := by
  subst hi0 hj0
  refine ⟨if c = lo then a else a.map (·.add (lo * 1)), c - lo, fun w xs h => ?_, fun h => ?_, by omega, fun W => ?_⟩
  · by_cases hz : len = 0
    · exact ⟨by rw [List.length_take, List.length_drop, h.1]; omega, .inl hz⟩
    · obtain ⟨b, off, rfl, _, _⟩ := h.at (by omega)
      rw [if_neg (by omega), Option.map_some, Addr.add_lit, Nat.mul_one]
      have := h.sub lo (lo + len) (by omega) hhi
      rwa [Nat.add_sub_cancel_left] at this
  · cases a with
    | none => have := hn rfl; omega
    | some p =>
      by_cases hc : c = lo
      · rw [if_pos hc] at h; cases h
      · rw [if_neg hc] at h; cases h
  · rw [run_slice_lh W 40 a n c (by rw [Tryd.elemBytes]; exact Tryd.underlying40) .i64 .i64 (lo : Int) ((lo + len : Nat) : Int) (by omega) (by omega) (by omega), Tryd.elemBytes, Tryd.sizeByte]
    simp only [Result.andThen_ok, sliced, Int.toNat_natCast, Nat.add_sub_cancel_left]
/-- What is owned, read where it is handed on; nil has no room. -/
theorem Own.readn {w : World} {B : Nat} {v : Value} {xs : List Int} (h : Own w B v xs) : ∃ a n cap, v = .slice a n cap ∧ n ≤ cap ∧ Ints .u8 w a n xs ∧ (a = none → cap = 0) := by
  have h0 := h
  rcases h.2 with ⟨rfl, hn⟩ | ⟨g, cap, cur, rfl, _⟩
  · obtain rfl : xs = [] := List.length_eq_zero_iff.1 hn
    exact ⟨none, 0, 0, rfl, Nat.le_refl _, Ints.nil, fun _ => rfl⟩
  · obtain ⟨a, n, cap', hv, hc, hi⟩ := h0.read
    cases hv
    exact ⟨_, _, _, rfl, hc, hi, fun h => by cases h⟩
theorem only_trans {a b c : World} {g : Nat} (h : a.grownBy b (some g)) (k : b.grownBy c (some g)) : a.grownBy c (some g) :=
  ⟨k.os.trans h.os, k.tape.trans h.tape, k.output.trans h.output, Nat.le_trans h.size k.size, fun i hi hne => (k.block i (Nat.lt_of_lt_of_le hi h.size) hne).trans (h.block i hi hne)⟩
theorem only_ext {a b c : World} {g : Nat} (h : a.grownBy b (some g)) (k : Ext b c) : a.grownBy c (some g) := only_trans h ⟨k.os, k.tape, k.output, k.size, fun i hi _ => k.block i hi⟩
theorem getD_all {xs : List Int} {P : Int → Prop} (h : ∀ x ∈ xs, P x) (h0 : P 0) (k : Nat) : P (xs.getD k 0) := by
  by_cases hk : k < xs.length
  · rw [List.getD_eq_getElem?_getD, List.getElem?_eq_getElem hk]
    exact h _ (List.getElem_mem hk)
  · rw [List.getD_eq_getElem?_getD, List.getElem?_eq_none (by omega)]
    exact h0
end Go.Proofs.YtkjchddidpjjmaaDoor
namespace Go.Proofs.YtkjchddidpjjmaaDoor.segBack
open Go.ChangeShapes Go.WideShapes Go.ChangeAt Go.RowKit

theorem fact0 : Pl.encF ⟨17, 1, 2, 0, 0, 0, 0⟩ 0 ([] : List Int).length = 0 := by decide +kernel
theorem fact1 : Pl.encB ⟨17, 1, 2, 0, 0, 0, 0⟩ 0 [] = [0, 1, 0, 2, 0, 8, 255, 244] := by decide +kernel
theorem encFact (w : World) : Calls Tryd.prog 32 #[.agg #[.int .i64 17, .int .i64 1, .int .i64 2, .int .i64 0, .int .i64 0, .int .i64 0, .int .i64 0, .slice none 0 0], .int .i64 0] w
    fun e w' => ∃ g n c, e = .returned (.tuple #[.slice (some ⟨g, 0, none⟩) n c, .nilIface]) ∧ 8 = n ∧ w'.cell? ⟨g, 5, none⟩ = some (.int .u8 8) ∧ w'.cell? ⟨g, 6, none⟩ = some (.int .u8 255) ∧ w'.cell? ⟨g, 7, none⟩ = some (.int .u8 244) ∧ Ext w w' := by
  refine (sEncode_any ⟨17, 1, 2, 0, 0, 0, 0⟩ none 0 0 [] 0 w Ints.nil Pl.IsB.nil).mono ?_
  rintro e w' ⟨v, rfl, o, q⟩
  rw [fact1] at o
  rw [fact0]
  obtain ⟨g, n, c, rfl, hn, _, _, _, hc, _⟩ := o.shape (by decide)
  have hn8 : 8 = n := hn
  exact ⟨g, n, c, rfl, hn8, hc 5 (by omega), hc 6 (by omega), hc 7 (by omega), q⟩
namespace Pl
open Go.Proofs.YtkjchddidpjjmaaDoor.Pl
theorem segQ_other {s : Sg} {over other : Int} {xs : List Int} (h : SegOk s xs.length) (hb : IsB xs) (h0 : 0 ≤ over ∧ over < 65535) (h1 : 0 ≤ other ∧ other < 65535) (hne : other ≠ over) : segQ s.kind (segBytes s (segCheck s over xs) xs) other = 6 := by
  rw [segQ_of h.1 ⟨h1.1, by omega⟩, if_neg (fun hn => hn (segBytes_is h)), segBytes_at h.1, segBytes_drop h.1, segBytes_dec h, if_neg (seg_other h hb h0 h1 hne)]
end Pl
theorem dec_ok (s : Sg) (a : Option Addr) (n c : Nat) (xs : List Int) (over : Int) (w : World) (hok : Pl.SegOk s xs.length) (hb : Pl.IsB xs) (ho : Pl.Word over) (hr : Ints .u8 w a n (Pl.segBytes s (Pl.segCheck s over xs) xs)) (hnc : n ≤ c) (hc : a = none → c = 0) :
    Calls Tryd.prog 34 #[.int .i64 s.kind, .slice a n c, .int .i64 over] w fun e w' => ∃ a' n' c', e = .returned (.tuple #[s.v (.slice a' n' c'), .nilIface]) ∧ Ints .u8 w' a' n' xs ∧ Ext w w' := by
  refine (sdecode_any s.kind a n c _ over w hr (Pl.segBytes_isB hok (Pl.segCheck_bd _ _ _) hb) hnc hc).mono ?_
  rintro e w' ⟨v, rfl, o, q⟩
  unfold Pl.segV Pl.segD at *
  rw [Pl.segQ_enc hok ho, if_pos rfl, Pl.segBytes_drop hok.1] at o
  rw [Pl.segQ_enc hok ho, if_pos rfl, Pl.segBytes_dec hok]
  obtain ⟨a', n', c', rfl, _, r⟩ := o.read
  exact ⟨a', n', c', rfl, r, q⟩
theorem dec_bad (k : Int) (a : Option Addr) (n c : Nat) (xs : List Int) (over q : Int) (w : World) (hr : Ints .u8 w a n xs) (hb : Pl.IsB xs) (hnc : n ≤ c) (hc : a = none → c = 0) (h : Pl.segQ k xs over = q) :
    Calls Tryd.prog 34 #[.int .i64 k, .slice a n c, .int .i64 over] w fun e w' => ∃ u, e = .returned (.tuple #[.agg u, erv q]) ∧ Ext w w' := by
  refine (sdecode_any k a n c xs over w hr hb hnc hc).mono ?_
  rintro e w' ⟨v, rfl, o, q⟩
  exact ⟨_, by rw [h], q⟩
theorem eqz (q : Int) (h : q = 0) : (q == 0) = true := by simpa using h

set_option maxRecDepth 100000 in
set_option maxHeartbeats 8000000 in
theorem walk (s0 : Sg) (a0 : Option Addr) (n0 c0 : Nat) (x0 : List Int) (x1 x2 x3 : Int) (w : World) (hg : Handle w) (w0 : Sd.Is w ⟨s0, a0, n0, c0, x0⟩) (_ : IsInt x1) (i2 : IsInt x2) (_ : IsInt x3) :
    Calls Tryd.prog 6 #[s0.v (.slice a0 n0 c0), .int .i64 x1, .int .i64 x2, .int .i64 x3] w fun e w' => e = .returned (.bool true) ∧ Below w.heap.size w w' := by
  obtain ⟨⟨hb0, hB0, _, _⟩, _, _⟩ := w0
  have HG := Lib.hid hg
  have H0 := Lib.hid hb0
  have HB0 := Lib.hid hB0
  have HL := Lib.hid hb0.len
  have K0 := Blk.new w 50 (s0.cells (.slice a0 n0 c0))
  have E0 : Ext w (w.alloc (.cells (s0.cells (.slice a0 n0 c0)) 50)) := (Ext.refl w).alloc _
  clear hg hb0 hB0
  go_enter Tryd.func6, Tryd.ntmps6
  go_wp2_with fail
  refine (encFact _).mono ?_
  rintro e W1 ⟨g1, m1, d1, rfl, rfl, k5, k6, k7, q1⟩
  have K1 := K0.ext q1
  have E1 := E0.trans q1
  have ld := K1.seg
  clear K0 E0 q1
  go_wp2_with ((apply load_by rfl _ _ rfl _ rfl); (focus (with_reducible assumption)))
  refine (sEncode_any s0 a0 n0 c0 x0 x1 W1 (H0.out.ext E1) HB0.out).mono ?_
  rintro e W2 ⟨v2, rfl, o2, q2⟩
  have K2 := K1.ext q2
  have E2 := E1.trans q2
  clear ld K1 E1 q2 k5 k6 k7
  by_cases hz : Pl.encF s0 x1 x0.length = 0
  case neg =>
    rw [erv_ne hz]
    unfold errv
    clear hz
    go_wp2_with fail
    go_ret
    exact ⟨rfl, E2⟩
  obtain ⟨hv, hw⟩ := Pl.encF_zero hz
  have hX : Pl.encB s0 x1 x0 = Pl.segBytes s0 (Pl.segCheck s0 x1 x0) x0 := by unfold Pl.encB; rw [if_pos hz]
  rw [hX] at o2
  rw [hz, erv_zero]
  have HV := Lib.hid hv
  have HW := Lib.hid hw
  clear hX hz hv hw
  have hI := Pl.segBytes_isB HV.out (Pl.segCheck_bd s0 x1 x0) HB0.out
  have hlen := Pl.segBytes_length (c := Pl.segCheck s0 x1 x0) (xs := x0) HV.out.1
  have hall := Pl.seg_all HV.out HB0.out HW.out
  have HDO := Lib.hid (fun (a : Option Addr) (n c : Nat) (W : World) => dec_ok s0 a n c x0 x1 W HV.out HB0.out HW.out)
  have HDF := Lib.hid (fun (j : Nat) (y : Int) (hj : j < (Pl.segBytes s0 (Pl.segCheck s0 x1 x0) x0).length) (hy : 0 ≤ y ∧ y ≤ 255) hne => Pl.segQ_flip (k := s0.kind) hI HW.out hj hy hne hall)
  have HOT := Lib.hid (fun (o : Int) (h0 : 0 ≤ x1 ∧ x1 < 65535) (h1 : 0 ≤ o ∧ o < 65535) hne => Pl.segQ_other HV.out HB0.out h0 h1 hne)
  obtain ⟨a2, n2, c2, rfl, hnc2, r2, hc2⟩ := o2.readn
  generalize Pl.segBytes s0 (Pl.segCheck s0 x1 x0) x0 = X at *
  have HX := Lib.hid hI
  have HXL := Lib.hid hlen
  have hn2 : n2 ≤ 320 := by
    have h1 := r2.len
    have h2 := HV.out.2.2.2.2.2.2.2.2
    have h3 : Pl.segSize s0.kind ≤ 20 := by unfold Pl.segSize; split <;> omega
    omega
  have HR2 := Lib.hid r2
  have HC2 := Lib.hid hc2
  have HALL := Lib.hid hall
  have hX0 := (Pl.raw_bd hI 0).1
  have hF0 := Pl.fold_lo (Pl.raw 0 X)
  have hF1 := Pl.fold_hi (Pl.raw 0 X)
  clear hI hlen hall r2 hc2
  obtain ⟨t0, t1, t2, t3, t4, t5, t6, t7⟩ := K2.sg
  clear t1 t2 t3 t4 t5 t6 t7
  go_wp2_with fail
  refine (HDO.out a2 n2 c2 W2 HR2.out hnc2 HC2.out).mono ?_
  rintro e W3 ⟨a3, n3, c3, rfl, r3, q3⟩
  have KA := Blk.new W3 50 #[.int .i64 0, .int .i64 0, .int .i64 0, .int .i64 0, .int .i64 0, .int .i64 0, .int .i64 0, .slice none 0 0]
  have st := sto KA s0 a3 n3 c3
  have KB := KA.row (s0.cells (.slice a3 n3 c3))
  have E3 := E2.trans q3
  have hs3 := E3.size
  have hs2 := E2.size
  have E4 := (E3.alloc (.cells #[.int .i64 0, .int .i64 0, .int .i64 0, .int .i64 0, .int .i64 0, .int .i64 0, .int .i64 0, .slice none 0 0] 50)).row hs3 (s0.cells (.slice a3 n3 c3))
  have hk2 := K2.lt
  have hq3 := q3.size
  have K4 := ((K2.ext q3).alloc (.cells #[.int .i64 0, .int .i64 0, .int .i64 0, .int .i64 0, .int .i64 0, .int .i64 0, .int .i64 0, .slice none 0 0] 50)).farRow (show w.heap.size ≠ W3.heap.size by omega) (s0.cells (.slice a3 n3 c3))
  have r4 := Ints.keepRow (r3.ext ((Ext.refl W3).alloc (.cells #[.int .i64 0, .int .i64 0, .int .i64 0, .int .i64 0, .int .i64 0, .int .i64 0, .int .i64 0, .slice none 0 0] 50))) W3.heap.size (s0.cells (.slice a3 n3 c3)) (fun h0 p hp => by
    obtain ⟨b, o, rfl, hb, _⟩ := r3.at h0
    cases hp
    show b ≠ _
    omega)
  have q4 : Ext W2 ((W3.alloc (.cells #[.int .i64 0, .int .i64 0, .int .i64 0, .int .i64 0, .int .i64 0, .int .i64 0, .int .i64 0, .slice none 0 0] 50)).setRow W3.heap.size (s0.cells (.slice a3 n3 c3))) := (q3.alloc (.cells #[.int .i64 0, .int .i64 0, .int .i64 0, .int .i64 0, .int .i64 0, .int .i64 0, .int .i64 0, .slice none 0 0] 50)).row hq3 (s0.cells (.slice a3 n3 c3))
  clear KA E3 q3 r3 K2 E2 t0
  have l1 := KB.seg
  have l2 := K4.seg
  go_wp2_with (first | ((apply load_by rfl _ _ rfl _ rfl); (focus (with_reducible assumption))) | ((apply store_by rfl _ _ _ rfl _ rfl); (focus (with_reducible assumption)); (focus rfl)))
  generalize (W3.alloc (.cells #[.int .i64 0, .int .i64 0, .int .i64 0, .int .i64 0, .int .i64 0, .int .i64 0, .int .i64 0, .slice none 0 0] 50)).setRow W3.heap.size (s0.cells (.slice a3 n3 c3)) = W4 at *
  refine (segs_yes s0 a3 a0 n3 c3 n0 c0 x0 W4 r4 (H0.out.ext E4)).mono ?_
  rintro e W5 ⟨rfl, q5⟩
  have E5 := E4.trans q5
  have K5 := K4.ext q5
  have R5 := HR2.out.ext (q4.trans q5)
  clear l1 l2 KB K4 r4 E4 q4 q5 st
  go_wp2_with fail
  refine (of_ok a2 n2 c2 X W5 R5 HX.out (by omega)).mono ?_
  rintro e w' ⟨rfl, rfl⟩
  go_wp2_with fail
  refine (add_any (Pl.fold (Pl.raw 0 X)) x1 W5 ⟨hF0, hF1⟩ HW.out).mono ?_
  rintro e W6 ⟨rfl, q6⟩
  rw [HALL.out]
  have E6 := E5.trans q6
  have K6 := K5.ext q6
  have R6 := R5.ext q6
  clear E5 K5 R5 q6 hF0 hF1 hX0 hs2 hs3 hk2 hq3 HALL
  obtain ⟨D, hD⟩ : ∃ D, decide (0 ≤ x3 ∧ x3 < 65535 ∧ x1 < 65535 ∧ x3 ≠ x1) = D := ⟨_, rfl⟩
  have HDD := Lib.hid hD
  clear hD
  go_upto_region 13 with (fail)
  go_cut [114] (fun b wc => W6 = wc ∧ b = .bool D)
  case first =>
    by_cases g0 : 0 ≤ x3
    case neg =>
      have HR := Lib.hid (show false = D by rw [← HDD.out, decide_eq_false (fun h => g0 h.1)])
      go_wp2_with fail
      go_meet
      exact ⟨rfl, by rw [HR.out]⟩
    by_cases g1 : x3 < 65535
    case neg =>
      have HR := Lib.hid (show false = D by rw [← HDD.out, decide_eq_false (fun h => g1 h.2.1)])
      go_wp2_with fail
      go_meet
      exact ⟨rfl, by rw [HR.out]⟩
    by_cases g2 : x1 < 65535
    case neg =>
      have HR := Lib.hid (show false = D by rw [← HDD.out, decide_eq_false (fun h => g2 h.2.2.1)])
      go_wp2_with fail
      go_meet
      exact ⟨rfl, by rw [HR.out]⟩
    by_cases g3 : x3 = x1
    case pos =>
      have HR := Lib.hid (show false = D by rw [← HDD.out, decide_eq_false (fun h => h.2.2.2 g3)])
      have g3' : (x3 != x1) = false := by simpa using g3
      clear g3
      go_wp2_with fail
      go_meet
      exact ⟨rfl, by rw [HR.out]⟩
    have HR := Lib.hid (show true = D by rw [← HDD.out, decide_eq_true ⟨g0, g1, g2, g3⟩])
    have g3' : (x3 != x1) = true := by simpa using g3
    clear g3
    go_wp2_with fail
    go_meet
    exact ⟨rfl, by rw [HR.out]⟩
  obtain ⟨rfl, rfl⟩ := hcut
  go_upto_if 114 with (fail)
  go_cut [] (fun wc => Ext w wc ∧ Blk wc w.heap.size 50 (s0.cells (.slice a0 n0 c0)) ∧ Ints .u8 wc a2 n2 X)
  case first =>
    cases D
    · go_wp2_with fail
      go_meet
      exact ⟨E6, K6, R6⟩
    obtain ⟨g0, g1, g2, g3⟩ := of_decide_eq_true HDD.out
    have HB := Lib.hid (dec_bad s0.kind a2 n2 c2 X x3 6 W6 R6 HX.out hnc2 HC2.out (HOT.out x3 ⟨HW.out.1, g2⟩ ⟨g0, g1⟩ g3))
    obtain ⟨t0, t1, t2, t3, t4, t5, t6, t7⟩ := K6.sg
    clear g0 g1 g2 g3 t1 t2 t3 t4 t5 t6 t7
    go_wp2_with fail
    refine HB.out.mono ?_
    rintro e W7 ⟨u, rfl, q7⟩
    have E7 := E6.trans q7
    go_wp2_with fail
    refine (err_same 6 W7 (HG.out.below E7)).mono ?_
    rintro e W8 ⟨rfl, b8⟩
    have q8 : Ext W7 W8 := b8
    have HE8 := Lib.hid (E7.trans q8)
    have HK8 := Lib.hid ((K6.ext q7).ext q8)
    have HR8 := Lib.hid ((R6.ext q7).ext q8)
    clear b8 q8 q7 E7 t0
    go_wp2_with fail
    go_meet
    exact ⟨HE8.out, HK8.out, HR8.out⟩
  obtain ⟨E8, K8, R8⟩ := hcut
  clear E6 K6 R6 HOT HDD
  by_cases h1 : x2 < 0
  · go_wp2_with fail
    go_ret
    exact ⟨rfl, E8⟩
  have e8 : IntKind.i64.wrap (8 * (n2 : Int)) = 8 * (n2 : Int) := IntWalk.i64_in _ (by omega)
  by_cases h2 : 8 * (n2 : Int) ≤ x2
  · go_wp2_with fail
    go_ret
    exact ⟨rfl, E8⟩
  obtain ⟨bt, rfl⟩ := Int.eq_ofNat_of_zero_le (show 0 ≤ x2 by omega)
  have hj : bt / 8 < n2 := by omega
  go_wp2_with (at_builtin; refine Halt.out ?_)
  refine Halt.mk ?_
  refine app rfl _ _ rfl wc.heap.size _ [] rfl (Own.nil _ _) a2 n2 c2 X rfl R8 (by simp; omega) (Nat.le_refl _) ?_
  intro vz W9 oz p9
  rw [List.nil_append] at oz
  have hXl := R8.len
  obtain ⟨gz, nz, cz, rfl, hnz, lz, hgz, hgz', hcz, hfz⟩ := oz.shape (by omega)
  have hcj := hcz (bt / 8) (by omega)
  have hfj := hfz (bt / 8)
  have hXb := HX.out.getD (bt / 8)
  have hturn := turn _ hXb.1 hXb.2 (bt % 8) (Nat.mod_lt _ (by omega))
  have q9 : Ext wc W9 := p9
  have E9 := E8.trans q9
  have K9 := K8.ext q9
  have hwz := K8.lt
  have hle : w.heap.size ≤ gz := by omega
  have hidx : (bt : Int) / 8 < (nz : Int) := by omega
  have HZ := Lib.hid (fun y (hy : 0 ≤ y ∧ y ≤ 255) (hne : y ≠ X.getD (bt / 8) 0) => HDF.out (bt / 8) y (by omega) hy hne)
  have hgw : w.heap.size ≠ gz := by omega
  obtain ⟨t0, t1, t2, t3, t4, t5, t6, t7⟩ := K9.sg
  have HI := Lib.hid hnz
  clear hcz hfz hXb hXl hnz R8 E8 K8 t1 t2 t3 t4 t5 t6 t7
  generalize X.getD (bt / 8) 0 = Y at *
  have hm : bt % 8 = 0 ∨ bt % 8 = 1 ∨ bt % 8 = 2 ∨ bt % 8 = 3 ∨ bt % 8 = 4 ∨ bt % 8 = 5 ∨ bt % 8 = 6 ∨ bt % 8 = 7 := by omega
  by_cases hm0 : bt % 8 = 0
  · have hmi : (bt : Int) % 8 = 0 := by omega
    rw [hm0] at hturn
    have hT : Turned Y (bits .xor .u8 Y 1) 1 := hturn
    have HT := Lib.hid hT
    clear hturn hT hm hm0
    go_wp2_with fail
    have oz2 := oz.store (bt / 8) (bits .xor .u8 Y 1)
    obtain ⟨_, _, _, hv, hcz2, rz2, hz0⟩ := oz2.readn
    cases hv
    obtain ⟨hT0, hT1, hT2⟩ := HT.out
    have hq := HZ.out _ ⟨hT1, hT2⟩ (by omega)
    refine (dec_bad s0.kind _ nz cz _ x1 _ _ rz2 (HX.out.set _ hT1 hT2) hcz2 hz0 rfl).mono ?_
    rintro e W10 ⟨u, rfl, q10⟩
    rw [erv_ne hq]
    have E10 := (E9.set (p := ⟨gz, bt / 8, none⟩) hle (.int .u8 (bits .xor .u8 Y 1))).trans q10
    unfold errv
    clear hT0 hT1 hT2 hq
    go_wp2_with fail
    go_ret
    exact ⟨rfl, E10⟩
  by_cases hm1 : bt % 8 = 1
  · have hmi : (bt : Int) % 8 = 1 := by omega
    rw [hm1] at hturn
    have hT : Turned Y (bits .xor .u8 Y 2) 2 := hturn
    have HT := Lib.hid hT
    clear hturn hT hm hm1 hm0
    go_wp2_with fail
    have oz2 := oz.store (bt / 8) (bits .xor .u8 Y 2)
    obtain ⟨_, _, _, hv, hcz2, rz2, hz0⟩ := oz2.readn
    cases hv
    obtain ⟨hT0, hT1, hT2⟩ := HT.out
    have hq := HZ.out _ ⟨hT1, hT2⟩ (by omega)
    refine (dec_bad s0.kind _ nz cz _ x1 _ _ rz2 (HX.out.set _ hT1 hT2) hcz2 hz0 rfl).mono ?_
    rintro e W10 ⟨u, rfl, q10⟩
    rw [erv_ne hq]
    have E10 := (E9.set (p := ⟨gz, bt / 8, none⟩) hle (.int .u8 (bits .xor .u8 Y 2))).trans q10
    unfold errv
    clear hT0 hT1 hT2 hq
    go_wp2_with fail
    go_ret
    exact ⟨rfl, E10⟩
  by_cases hm2 : bt % 8 = 2
  · have hmi : (bt : Int) % 8 = 2 := by omega
    rw [hm2] at hturn
    have hT : Turned Y (bits .xor .u8 Y 4) 4 := hturn
    have HT := Lib.hid hT
    clear hturn hT hm hm2 hm0 hm1
    go_wp2_with fail
    have oz2 := oz.store (bt / 8) (bits .xor .u8 Y 4)
    obtain ⟨_, _, _, hv, hcz2, rz2, hz0⟩ := oz2.readn
    cases hv
    obtain ⟨hT0, hT1, hT2⟩ := HT.out
    have hq := HZ.out _ ⟨hT1, hT2⟩ (by omega)
    refine (dec_bad s0.kind _ nz cz _ x1 _ _ rz2 (HX.out.set _ hT1 hT2) hcz2 hz0 rfl).mono ?_
    rintro e W10 ⟨u, rfl, q10⟩
    rw [erv_ne hq]
    have E10 := (E9.set (p := ⟨gz, bt / 8, none⟩) hle (.int .u8 (bits .xor .u8 Y 4))).trans q10
    unfold errv
    clear hT0 hT1 hT2 hq
    go_wp2_with fail
    go_ret
    exact ⟨rfl, E10⟩
  by_cases hm3 : bt % 8 = 3
  · have hmi : (bt : Int) % 8 = 3 := by omega
    rw [hm3] at hturn
    have hT : Turned Y (bits .xor .u8 Y 8) 8 := hturn
    have HT := Lib.hid hT
    clear hturn hT hm hm3 hm0 hm1 hm2
    go_wp2_with fail
    have oz2 := oz.store (bt / 8) (bits .xor .u8 Y 8)
    obtain ⟨_, _, _, hv, hcz2, rz2, hz0⟩ := oz2.readn
    cases hv
    obtain ⟨hT0, hT1, hT2⟩ := HT.out
    have hq := HZ.out _ ⟨hT1, hT2⟩ (by omega)
    refine (dec_bad s0.kind _ nz cz _ x1 _ _ rz2 (HX.out.set _ hT1 hT2) hcz2 hz0 rfl).mono ?_
    rintro e W10 ⟨u, rfl, q10⟩
    rw [erv_ne hq]
    have E10 := (E9.set (p := ⟨gz, bt / 8, none⟩) hle (.int .u8 (bits .xor .u8 Y 8))).trans q10
    unfold errv
    clear hT0 hT1 hT2 hq
    go_wp2_with fail
    go_ret
    exact ⟨rfl, E10⟩
  by_cases hm4 : bt % 8 = 4
  · have hmi : (bt : Int) % 8 = 4 := by omega
    rw [hm4] at hturn
    have hT : Turned Y (bits .xor .u8 Y 16) 16 := hturn
    have HT := Lib.hid hT
    clear hturn hT hm hm4 hm0 hm1 hm2 hm3
    go_wp2_with fail
    have oz2 := oz.store (bt / 8) (bits .xor .u8 Y 16)
    obtain ⟨_, _, _, hv, hcz2, rz2, hz0⟩ := oz2.readn
    cases hv
    obtain ⟨hT0, hT1, hT2⟩ := HT.out
    have hq := HZ.out _ ⟨hT1, hT2⟩ (by omega)
    refine (dec_bad s0.kind _ nz cz _ x1 _ _ rz2 (HX.out.set _ hT1 hT2) hcz2 hz0 rfl).mono ?_
    rintro e W10 ⟨u, rfl, q10⟩
    rw [erv_ne hq]
    have E10 := (E9.set (p := ⟨gz, bt / 8, none⟩) hle (.int .u8 (bits .xor .u8 Y 16))).trans q10
    unfold errv
    clear hT0 hT1 hT2 hq
    go_wp2_with fail
    go_ret
    exact ⟨rfl, E10⟩
  by_cases hm5 : bt % 8 = 5
  · have hmi : (bt : Int) % 8 = 5 := by omega
    rw [hm5] at hturn
    have hT : Turned Y (bits .xor .u8 Y 32) 32 := hturn
    have HT := Lib.hid hT
    clear hturn hT hm hm5 hm0 hm1 hm2 hm3 hm4
    go_wp2_with fail
    have oz2 := oz.store (bt / 8) (bits .xor .u8 Y 32)
    obtain ⟨_, _, _, hv, hcz2, rz2, hz0⟩ := oz2.readn
    cases hv
    obtain ⟨hT0, hT1, hT2⟩ := HT.out
    have hq := HZ.out _ ⟨hT1, hT2⟩ (by omega)
    refine (dec_bad s0.kind _ nz cz _ x1 _ _ rz2 (HX.out.set _ hT1 hT2) hcz2 hz0 rfl).mono ?_
    rintro e W10 ⟨u, rfl, q10⟩
    rw [erv_ne hq]
    have E10 := (E9.set (p := ⟨gz, bt / 8, none⟩) hle (.int .u8 (bits .xor .u8 Y 32))).trans q10
    unfold errv
    clear hT0 hT1 hT2 hq
    go_wp2_with fail
    go_ret
    exact ⟨rfl, E10⟩
  by_cases hm6 : bt % 8 = 6
  · have hmi : (bt : Int) % 8 = 6 := by omega
    rw [hm6] at hturn
    have hT : Turned Y (bits .xor .u8 Y 64) 64 := hturn
    have HT := Lib.hid hT
    clear hturn hT hm hm6 hm0 hm1 hm2 hm3 hm4 hm5
    go_wp2_with fail
    have oz2 := oz.store (bt / 8) (bits .xor .u8 Y 64)
    obtain ⟨_, _, _, hv, hcz2, rz2, hz0⟩ := oz2.readn
    cases hv
    obtain ⟨hT0, hT1, hT2⟩ := HT.out
    have hq := HZ.out _ ⟨hT1, hT2⟩ (by omega)
    refine (dec_bad s0.kind _ nz cz _ x1 _ _ rz2 (HX.out.set _ hT1 hT2) hcz2 hz0 rfl).mono ?_
    rintro e W10 ⟨u, rfl, q10⟩
    rw [erv_ne hq]
    have E10 := (E9.set (p := ⟨gz, bt / 8, none⟩) hle (.int .u8 (bits .xor .u8 Y 64))).trans q10
    unfold errv
    clear hT0 hT1 hT2 hq
    go_wp2_with fail
    go_ret
    exact ⟨rfl, E10⟩
  by_cases hm7 : bt % 8 = 7
  · have hmi : (bt : Int) % 8 = 7 := by omega
    rw [hm7] at hturn
    have hT : Turned Y (bits .xor .u8 Y 128) 128 := hturn
    have HT := Lib.hid hT
    clear hturn hT hm hm7 hm0 hm1 hm2 hm3 hm4 hm5 hm6
    go_wp2_with fail
    have oz2 := oz.store (bt / 8) (bits .xor .u8 Y 128)
    obtain ⟨_, _, _, hv, hcz2, rz2, hz0⟩ := oz2.readn
    cases hv
    obtain ⟨hT0, hT1, hT2⟩ := HT.out
    have hq := HZ.out _ ⟨hT1, hT2⟩ (by omega)
    refine (dec_bad s0.kind _ nz cz _ x1 _ _ rz2 (HX.out.set _ hT1 hT2) hcz2 hz0 rfl).mono ?_
    rintro e W10 ⟨u, rfl, q10⟩
    rw [erv_ne hq]
    have E10 := (E9.set (p := ⟨gz, bt / 8, none⟩) hle (.int .u8 (bits .xor .u8 Y 128))).trans q10
    unfold errv
    clear hT0 hT1 hT2 hq
    go_wp2_with fail
    go_ret
    exact ⟨rfl, E10⟩
  omega
set_option maxRecDepth 100000 in
theorem lifted (os : Os) (started : os.Started) (H : Type) (enc : TypeId × Value → H) :
    ReturnsInHanded {} Tryd.checked os 6 .any (fun w args => (Rows.segBackSpec.pre enc Tryd.prog Tryd.f6 [] false w args ∧ laidMetH Tryd.prog laid w) ∧ sizedMet enc Tryd.prog Tryd.f6 (OpenSpec.ofChange Rows.segBackSpec) false w args)
      (Rows.segBackSpec.post enc Tryd.prog Tryd.f6 false true false false) := by
  refine returnsInHanded_of_change_and (C := Tryd.checked) (X := fun w _ => laidMetH Tryd.prog laid w) (fun _ _ _ hh h => h.of_heap hh) own started (by kernel_rfl) Tryd.func6
    (ChangeSpec.witness_at (enc := enc) (C := Tryd.checked) (os := os) (X := fun w _ => laidMetH Tryd.prog laid w) false (laidWorld os) #[.agg #[.int .i64 0, .int .i64 0, .int .i64 0, .int .i64 0, .int .i64 0, .int .i64 0, .int .i64 0, .slice none 0 0], .int .i64 0, .int .i64 0, .int .i64 0] 8 rfl (by kernel_rfl) (by kernel_rfl) (by kernel_rfl) (by kernel_rfl) (by kernel_rfl) (laidWorld_met os _)) ?_
  intro W base args ds gs before hval0 hW _ _ hL _
  have hval : ∀ (j : Nat) t v, Tryd.f6.params[j]? = some t → args[j]? = some v → Value.okWide Tryd.prog W .any base t v := hval0
  have hW' := hW
  obtain ⟨p, q, hA0, hV0, rfl, hfz, hnd⟩ := hW
  have hA : DataW.TrodAll enc Tryd.prog W 0 (fun _ => true) true Tryd.f6.params.toList args.toList ds p := hA0
  have hV : DataW.TrodVars enc Tryd.prog W (fun _ => true) [] gs q := hV0
  have hg := handle_of_laid hL
  rw [Tryd.params6] at hA hval
  obtain ⟨v0, vs0, d0, ds0, p0, q0, hargs, rfl, rfl, h0, r0⟩ := trodAll_cons hA
  obtain ⟨v1, vs1, d1, ds1, p1, q1, rfl, rfl, rfl, h1, r1⟩ := trodAll_cons r0
  obtain ⟨v2, vs2, d2, ds2, p2, q2, rfl, rfl, rfl, h2, r2⟩ := trodAll_cons r1
  obtain ⟨v3, vs3, d3, ds3, p3, q3, rfl, rfl, rfl, h3, r3⟩ := trodAll_cons r2
  obtain ⟨rfl, rfl, rfl⟩ := trodAll_nil r3
  obtain rfl : args = #[v0, v1, v2, v3] := by cases args; simp_all
  obtain ⟨rfl, rfl⟩ := vars_nil hV
  have lt0 : ∀ x ∈ p0, x.block < W.heap.size := by obtain ⟨m, hm⟩ := h0; exact DataW.trod_lt m _ _ _ hm
  have k0 := h0
  obtain ⟨s0, a0, n0, c0, x0, rfl, w0⟩ := open_seg (hval 0 50 v0 rfl rfl) h0
  have lt1 : ∀ x ∈ p1, x.block < W.heap.size := by obtain ⟨m, hm⟩ := h1; exact DataW.trod_lt m _ _ _ hm
  have k1 := h1
  obtain ⟨x1, rfl, _, _, w1'⟩ := open_int Tryd.underlying3 (hval 1 3 v1 rfl rfl) h1
  have w1 : IsInt x1 := wf_i64 w1'
  have lt2 : ∀ x ∈ p2, x.block < W.heap.size := by obtain ⟨m, hm⟩ := h2; exact DataW.trod_lt m _ _ _ hm
  have k2 := h2
  obtain ⟨x2, rfl, _, _, w2'⟩ := open_int Tryd.underlying3 (hval 2 3 v2 rfl rfl) h2
  have w2 : IsInt x2 := wf_i64 w2'
  have lt3 : ∀ x ∈ p3, x.block < W.heap.size := by obtain ⟨m, hm⟩ := h3; exact DataW.trod_lt m _ _ _ hm
  have k3 := h3
  obtain ⟨x3, rfl, _, _, w3'⟩ := open_int Tryd.underlying3 (hval 3 3 v3 rfl rfl) h3
  have w3 : IsInt x3 := wf_i64 w3'
  clear hA0 hval0
  refine (walk s0 a0 n0 c0 x0 x1 x2 x3 W hg w0 w1 w2 w3).mono fun e W' ⟨he, bel⟩ => ?_
  subst he
  exact ⟨_, rfl, _, _, _, [], _, [], hW', trodAll_mk1 (shut_bool Tryd.underlying4 _), (trodAll_cons_mk (Below.trod laidOut (by kernel_rfl) (of_decide_eq_true (by kernel_rfl)) k0 bel lt0) (trodAll_cons_mk (Below.trod laidOut (by kernel_rfl) (of_decide_eq_true (by kernel_rfl)) k1 bel lt1) (trodAll_cons_mk (Below.trod laidOut (by kernel_rfl) (of_decide_eq_true (by kernel_rfl)) k2 bel lt2) (trodAll_cons_mk (Below.trod laidOut (by kernel_rfl) (of_decide_eq_true (by kernel_rfl)) k3 bel lt3) trodAll_mk0)))), rfl, bel.frame _, fun h => by cases h⟩

theorem over : Rows.segBackRow.holds Tryd.pinned (OpenSpec.ofChange Rows.segBackSpec) :=
  OpenClaim.holds_of_wide 6 Tryd.f6 rfl rfl rfl rfl rfl rfl rfl ⟨rfl, rfl, rfl, rfl, rfl⟩ rfl rfl rfl rfl rfl (by kernel_rfl) Tryd.func6 (by kernel_rfl)
    (of_decide_eq_true (by kernel_rfl)) (by unfold Func.isWrapper; first | (rw [if_pos (by decide +kernel)]; kernel_rfl) | (rw [if_neg (by decide +kernel)]; exact ⟨rfl, rfl⟩))
    (fun os started H enc _ => lifted os started H enc)

/-- THE STATEMENT. -/
theorem proved : Rows.SegBackCardSaid :=
  Claim7.holds_tied_plain_at .later [] _ _ _ _
    over (fun _ h => by cases h) (by kernel_rfl) (fun _ h => by cases h) segBack_row_tie rfl ⟨rfl, rfl⟩ (by kernel_rfl) rfl
    (fun f fn hf hfn => by
      obtain rfl : f = 6 := Option.some.inj ((show Tryd.prog.funcNamed "gangplank/gangplanklaw1.SegBack" = some 6 by kernel_rfl).symm.trans hf) |>.symm
      obtain rfl : fn = Tryd.f6 := (Option.some.inj (Tryd.func6.symm.trans hfn)).symm
      exact ⟨by kernel_rfl, fun j t ht => by
        rw [Tryd.params6] at ht
        have hall : ((#[50, 3, 3, 3] : Array Nat).all fun t => !Tryd.prog.wantsStandIn t) = true := by kernel_rfl
        have := Array.all_eq_true'.1 hall t (Array.mem_of_getElem? ht)
        show Tryd.prog.wantsStandIn t = false
        simpa using this⟩)
    (by kernel_rfl)
#print axioms proved
end Go.Proofs.YtkjchddidpjjmaaDoor.segBack
