/- Lemmas of this seat, bound together: Backs OpenM Erv SixS Store Of Emb1. Conditions: as each lemma states them. -/
import Derived.Test.YtbjogkpepfgegaaGreatDoorK01
import Derived.Test.YtbjogkpepfgegaaGreatDoorK00
import Derived.Deep.Slices
import Derived.Laws.Tables
import Derived.Laws.CopyOwn
import Derived.BigRegion
namespace Go.Proofs.YtbjogkpepfgegaaGreatDoor
open Go.RowKit
namespace Pl
def back0 : Back := ⟨0, 0, 0, 0, false, false⟩
/-- May a server's numbers be? -/
def Back.Num (b : Back) : Prop := (0 ≤ b.id ∧ b.id ≤ 65535) ∧ (0 ≤ b.door ∧ b.door ≤ 65535) ∧ (0 ≤ b.addr ∧ b.addr < 4294967296) ∧ (0 ≤ b.weight ∧ b.weight ≤ 10)
end Pl
abbrev backv (b : Pl.Back) : Value := .agg #[.int .i64 b.id, .int .i64 b.addr, .int .i64 b.door, .int .i64 b.weight, .bool b.up, .bool b.drain]

/-- A slice's value shows these servers. -/
def Backs (w : World) (a : Option Addr) (n : Nat) (bs : List Pl.Back) : Prop :=
  bs.length = n ∧ (n = 0 ∨ ∃ b off, a = some ⟨b, off, none⟩ ∧ ∀ i, i < n →
    w.cell? ⟨b, off + i * 6, none⟩ = some (.int .i64 (bs.getD i Pl.back0).id) ∧ w.cell? ⟨b, off + i * 6 + 1, none⟩ = some (.int .i64 (bs.getD i Pl.back0).addr) ∧
    w.cell? ⟨b, off + i * 6 + 2, none⟩ = some (.int .i64 (bs.getD i Pl.back0).door) ∧ w.cell? ⟨b, off + i * 6 + 3, none⟩ = some (.int .i64 (bs.getD i Pl.back0).weight) ∧
    w.cell? ⟨b, off + i * 6 + 4, none⟩ = some (.bool (bs.getD i Pl.back0).up) ∧ w.cell? ⟨b, off + i * 6 + 5, none⟩ = some (.bool (bs.getD i Pl.back0).drain))

set_option maxHeartbeats 800000 in
theorem pcheck_full (a : Option Addr) (n c : Nat) (w : World) (h : 8 < n) :
    Calls Tryz.prog 49 #[.slice a n c] w fun e w' => e = .returned (.tuple #[.int .i64 0, errv 3]) ∧ Ext w w' := by
  go_enter Tryz.func49, Tryz.ntmps49
  go_wp2
  go_ret2
  exact ⟨rfl, Ext.refl _⟩

namespace Pl
/-- Nothing is wrong with the server at a place. -/
def Fine (bs : List Back) (j : Nat) : Prop := (bs.getD j back0).Num ∧ ∀ m, m < j → (bs.getD m back0).id ≠ (bs.getD j back0).id
end Pl
/-- What Check gives of servers that are not too many. -/
def PRes (bs : List Pl.Back) (e : Ending) : Prop := ∃ i : Nat, (∀ j, j < i → Pl.Fine bs j) ∧
  ((i = bs.length ∧ e = .returned (.tuple #[.int .i64 0, .nilIface])) ∨ (i < bs.length ∧ ¬ (bs.getD i Pl.back0).Num ∧ e = .returned (.tuple #[.int .i64 i, errv 1])) ∨
    (i < bs.length ∧ (bs.getD i Pl.back0).Num ∧ (∃ m, m < i ∧ (bs.getD m Pl.back0).id = (bs.getD i Pl.back0).id) ∧ e = .returned (.tuple #[.int .i64 i, errv 8])))

theorem Backs.at {w w' : World} {a : Option Addr} {n : Nat} {bs : List Pl.Back} (h : Backs w a n bs) (hE : Ext w w') (hn : 0 < n) : ∃ b off, a = some ⟨b, off, none⟩ ∧ b < w.heap.size ∧ ∀ i, i < n →
    w'.cell? ⟨b, off + i * 6, none⟩ = some (.int .i64 (bs.getD i Pl.back0).id) ∧ w'.cell? ⟨b, off + i * 6 + 1, none⟩ = some (.int .i64 (bs.getD i Pl.back0).addr) ∧
    w'.cell? ⟨b, off + i * 6 + 2, none⟩ = some (.int .i64 (bs.getD i Pl.back0).door) ∧ w'.cell? ⟨b, off + i * 6 + 3, none⟩ = some (.int .i64 (bs.getD i Pl.back0).weight) ∧
    w'.cell? ⟨b, off + i * 6 + 4, none⟩ = some (.bool (bs.getD i Pl.back0).up) ∧ w'.cell? ⟨b, off + i * 6 + 5, none⟩ = some (.bool (bs.getD i Pl.back0).drain) := by
  rcases h.2 with h0 | ⟨b, off, rfl, hc⟩
  · omega
  · have hb : b < w.heap.size := World.block_lt_of_cell? w _ (hc 0 hn).1
    refine ⟨b, off, rfl, hb, fun i hi => ?_⟩
    obtain ⟨h0, h1, h2, h3, h4, h5⟩ := hc i hi
    have q : ∀ o, w'.cell? ⟨b, o, none⟩ = w.cell? ⟨b, o, none⟩ := fun o => Below.cell hE (p := ⟨b, o, none⟩) hb
    exact ⟨(q _).trans h0, (q _).trans h1, (q _).trans h2, (q _).trans h3, (q _).trans h4, (q _).trans h5⟩
theorem Backs.ext {w w' : World} {a : Option Addr} {n : Nat} {bs : List Pl.Back} (h : Backs w a n bs) (hE : Ext w w') : Backs w' a n bs := by
  refine ⟨h.1, ?_⟩
  rcases Nat.eq_zero_or_pos n with h0 | h0
  · exact .inl h0
  · obtain ⟨b, off, rfl, _, hc⟩ := h.at hE h0
    exact .inr ⟨b, off, rfl, hc⟩

set_option maxHeartbeats 8000000 in
theorem pcheck_any (a : Option Addr) (n c : Nat) (bs : List Pl.Back) (w : World) (hb : Backs w a n bs) (h : n ≤ 8) (hnc : n ≤ c) :
    Calls Tryz.prog 49 #[.slice a n c] w fun e w' => PRes bs e ∧ Ext w w' := by
  have HB := Lib.hid hb
  have HL := Lib.hid hb.1
  clear hb
  go_enter Tryz.func49, Tryz.ntmps49
  go_wp2
  go_loopw [14] (fun i wr => ∃ k : Nat, k ≤ n ∧ i = .int .i64 k ∧ Ext w wr ∧ ∀ j, j < k → Pl.Fine bs j) (fun i _ => n - (intOf i).toNat)
  case atStart => exact ⟨0, Nat.zero_le _, rfl, Ext.refl _, fun j hj => absurd hj (Nat.not_lt_zero _)⟩
  case round =>
    obtain ⟨k, hk, rfl, hE, hF⟩ := hrel
    have HF := Lib.hid hF
    clear hF
    by_cases hlt : k < n
    case neg =>
      obtain rfl : n = k := by omega
      go_wp2
      go_ret2
      exact ⟨⟨_, HF.out, .inl ⟨HL.out.symm, rfl⟩⟩, hE⟩
    case pos =>
      have HE := Lib.hid hE
      obtain ⟨b, off, rfl, hbl, hc⟩ := HB.out.at hE (by omega)
      obtain ⟨c0, c1, c2, c3, c4, c5⟩ := hc k hlt
      have HC := Lib.hid hc
      have K1 := Blk.new wr 34 #[.int .i64 (bs.getD k Pl.back0).id, .int .i64 (bs.getD k Pl.back0).addr, .int .i64 (bs.getD k Pl.back0).door, .int .i64 (bs.getD k Pl.back0).weight, .bool (bs.getD k Pl.back0).up, .bool (bs.getD k Pl.back0).drain]
      have E1 := hE.alloc (.cells #[.int .i64 (bs.getD k Pl.back0).id, .int .i64 (bs.getD k Pl.back0).addr, .int .i64 (bs.getD k Pl.back0).door, .int .i64 (bs.getD k Pl.back0).weight, .bool (bs.getD k Pl.back0).up, .bool (bs.getD k Pl.back0).drain] 34)
      generalize hx : bs.getD k Pl.back0 = x at *
      have HX := Lib.hid hx
      clear hc hx hE
      by_cases hnum : x.Num
      case neg =>
        have hres : PRes bs (.returned (.tuple #[.int .i64 k, errv 1])) := ⟨k, HF.out, .inr (.inl ⟨by rw [HL.out]; exact hlt, by rw [HX.out]; exact hnum, rfl⟩)⟩
        by_cases h1 : 0 ≤ x.id
        case neg => go_wp2; go_ret2; exact ⟨hres, E1⟩
        by_cases h2 : x.id ≤ 65535
        case neg => go_wp2; go_ret2; exact ⟨hres, E1⟩
        by_cases h3 : 0 ≤ x.door
        case neg => go_wp2; go_ret2; exact ⟨hres, E1⟩
        by_cases h4 : x.door ≤ 65535
        case neg => go_wp2; go_ret2; exact ⟨hres, E1⟩
        by_cases h5 : 0 ≤ x.addr ∧ x.addr < 4294967296
        case neg =>
          have H5 := Lib.hid h5
          clear h5
          go_wp2_with (go_at_call 48; refine (is_no _ _ H5.out).mono ?_; rintro e w' ⟨rfl, rfl⟩)
          go_ret2
          exact ⟨hres, E1⟩
        have H5 := Lib.hid h5
        clear h5
        by_cases h6 : 0 ≤ x.weight
        case neg =>
          go_wp2_with (go_at_call 48; refine (is_yes _ _ H5.out.1 H5.out.2).mono ?_; rintro e w' ⟨rfl, rfl⟩)
          go_ret2
          exact ⟨hres, E1⟩
        have h7 : ¬ x.weight ≤ 10 := fun h7 => hnum ⟨⟨h1, h2⟩, ⟨h3, h4⟩, H5.out, ⟨h6, h7⟩⟩
        go_wp2_with (go_at_call 48; refine (is_yes _ _ H5.out.1 H5.out.2).mono ?_; rintro e w' ⟨rfl, rfl⟩)
        go_ret2
        exact ⟨hres, E1⟩
      case pos =>
        have HN := Lib.hid hnum
        obtain ⟨⟨i0, i1⟩, ⟨d0, d1⟩, ⟨a0, a1⟩, ⟨w0, w1⟩⟩ := hnum
        have hck : (k : Int) ≤ (c : Int) := by omega
        go_wp2_with (go_at_call 48; refine (is_yes _ _ a0 a1).mono ?_; rintro e w' ⟨rfl, rfl⟩)
        clear c0 c1 c2 c3 c4 c5
        have EW := (Ext.refl wr).alloc (.cells #[.int .i64 x.id, .int .i64 x.addr, .int .i64 x.door, .int .i64 x.weight, .bool x.up, .bool x.drain] 34)
        obtain ⟨W1, hW1⟩ : ∃ W1, wr.alloc (.cells #[.int .i64 x.id, .int .i64 x.addr, .int .i64 x.door, .int .i64 x.weight, .bool x.up, .bool x.drain] 34) = W1 := ⟨_, rfl⟩
        rw [hW1] at K1 E1 EW ⊢
        clear hW1
        obtain ⟨wo, rfl⟩ : ∃ wo : World, wo = wr := ⟨_, rfl⟩
        go_loopw [59] (fun i wi => ∃ m : Nat, m ≤ k ∧ i = .int .i64 m ∧ Ext W1 wi ∧ ∀ j, j < m → (bs.getD j Pl.back0).id ≠ x.id) (fun i _ => k - (intOf i).toNat)
        case atStart => exact ⟨0, Nat.zero_le _, rfl, Ext.refl _, fun j hj => absurd hj (Nat.not_lt_zero _)⟩
        case round =>
          obtain ⟨m, hm, rfl, hEi, hFi⟩ := hrel
          have HFi := Lib.hid hFi
          clear hFi
          have ki := K1.ext hEi
          have ci := ki.cells
          have fi := ki.free
          have li := ki.lt
          by_cases hmk : m < k
          case neg =>
            obtain rfl : k = m := by omega
            have hEE := E1.trans hEi
            have HEE := Lib.hid hEE
            clear hEE hEi
            go_wp2
            go_roundw
            case rel => exact ⟨k + 1, by omega, by go_num, HEE.out, fun j hj => by
              rcases Nat.lt_succ_iff_lt_or_eq.1 hj with h | rfl
              · exact HF.out j h
              · exact ⟨by rw [HX.out]; exact HN.out, fun m hm => by rw [HX.out]; exact HFi.out m hm⟩⟩
            case measure => simp [intOf]; omega
          case pos =>
            obtain ⟨c0, c1, c2, c3, c4, c5⟩ := HC.out m (by omega)
            have q : ∀ o, wr.cell? ⟨b, o, none⟩ = wo.cell? ⟨b, o, none⟩ := fun o => Below.cell (EW.trans hEi) (p := ⟨b, o, none⟩) (by have := HE.out.size; show b < _; omega)
            replace c0 := (q _).trans c0
            replace c1 := (q _).trans c1
            replace c2 := (q _).trans c2
            replace c3 := (q _).trans c3
            replace c4 := (q _).trans c4
            replace c5 := (q _).trans c5
            have Ei := hEi.alloc (.cells #[.int .i64 (bs.getD m Pl.back0).id, .int .i64 (bs.getD m Pl.back0).addr, .int .i64 (bs.getD m Pl.back0).door, .int .i64 (bs.getD m Pl.back0).weight, .bool (bs.getD m Pl.back0).up, .bool (bs.getD m Pl.back0).drain] 34)
            have HH := Lib.hid hEi
            clear q hEi
            generalize hy : bs.getD m Pl.back0 = y at *
            have HY := Lib.hid hy
            clear hy
            by_cases hid : y.id = x.id
            · have hb : (y.id == x.id) = true := by simpa using hid
              have HI := Lib.hid hid
              clear hid
              go_wp2
              go_ret2
              exact ⟨⟨k, HF.out, .inr (.inr ⟨by rw [HL.out]; exact hlt, by rw [HX.out]; exact HN.out, ⟨m, hmk, by rw [HX.out, HY.out]; exact HI.out⟩, rfl⟩)⟩, E1.trans Ei⟩
            · have hb : (y.id == x.id) = false := by simpa using hid
              have HI := Lib.hid hid
              clear hid
              go_wp2
              go_roundw
              case rel => exact ⟨m + 1, by omega, by go_num, Ei, fun j hj => by
                rcases Nat.lt_succ_iff_lt_or_eq.1 hj with h | rfl
                · exact HFi.out j h
                · rw [HY.out]; exact HI.out⟩
              case measure => simp [intOf]; omega
end Go.Proofs.YtbjogkpepfgegaaGreatDoor
namespace Go.Proofs.YtbjogkpepfgegaaGreatDoor
open Go.ChangeShapes Go.WideShapes Go.ChangeAt Go.RowKit

def Six.Is (s : Six) : Prop := ∀ k, IsInt (s.l.getD k 0)

section
variable {H : Type} {enc : TypeId × Value → H} {W : World}

theorem open_cell_int {n : Nat} {c : Value} {y : Option (DataW H × List MemPlace)} (hy : y.isSome = true) (h : DataW.trod enc Tryz.prog W 0 (fun _ => true) true n 3 [c] = y) : ∃ x, c = .int .i64 x ∧ IsInt x := by
  obtain ⟨y, rfl⟩ := Option.isSome_iff_exists.1 hy
  obtain ⟨x, hx, _, hw⟩ := DataW.trod_int Tryz.underlying3 h
  exact ⟨x, by simpa using hx, wf_i64 hw⟩
theorem open_cell_bool {n : Nat} {c : Value} {y : Option (DataW H × List MemPlace)} (hy : y.isSome = true) (h : DataW.trod enc Tryz.prog W 0 (fun _ => true) true n 4 [c] = y) : ∃ x, c = .bool x := by
  obtain ⟨y, rfl⟩ := Option.isSome_iff_exists.1 hy
  obtain ⟨x, hx, _⟩ := DataW.trod_bool Tryz.underlying4 h
  exact ⟨x, by simpa using hx⟩
theorem isSome_at {α : Type} {xs : List α} {n j : Nat} (h : xs.length = n) (hj : j < n) : (xs[j]?).isSome = true := by
  rw [List.getElem?_eq_getElem (by omega)]; rfl

theorem Tryz.cellsInt : Tryz.prog.cellsOf 3 = 1 := by kernel_rfl
theorem Tryz.cellsSix : Tryz.prog.cellsOf 23 = 8 := by kernel_rfl
theorem Tryz.cellsFlow : Tryz.prog.cellsOf 50 = 19 := by kernel_rfl
theorem Tryz.cellsBool : Tryz.prog.cellsOf 4 = 1 := by kernel_rfl
theorem Tryz.cellsBack : Tryz.prog.cellsOf 34 = 6 := by kernel_rfl

set_option maxRecDepth 100000 in
theorem open_cells_six {n : Nat} {cs : List Value} {y : Option (DataW H × List MemPlace)} (hy : y.isSome = true) (h : DataW.trod enc Tryz.prog W 0 (fun _ => true) true n 23 cs = y) : ∃ s : Six, cs = s.cells.toList ∧ s.Is := by
  obtain ⟨y, rfl⟩ := Option.isSome_iff_exists.1 hy
  obtain ⟨xs, m, _, _, hl, hlen, hg⟩ := DataW.trod_array Tryz.underlying23 h
  match cs, hl.trans Tryz.cellsSix with
  | [c0, c1, c2, c3, c4, c5, c6, c7], _ =>
    obtain ⟨x0, rfl, i0⟩ := open_cell_int (isSome_at (j := 0) hlen (by omega)) (by simpa [Tryz.cellsInt] using hg 0 (by omega))
    obtain ⟨x1, rfl, i1⟩ := open_cell_int (isSome_at (j := 1) hlen (by omega)) (by simpa [Tryz.cellsInt] using hg 1 (by omega))
    obtain ⟨x2, rfl, i2⟩ := open_cell_int (isSome_at (j := 2) hlen (by omega)) (by simpa [Tryz.cellsInt] using hg 2 (by omega))
    obtain ⟨x3, rfl, i3⟩ := open_cell_int (isSome_at (j := 3) hlen (by omega)) (by simpa [Tryz.cellsInt] using hg 3 (by omega))
    obtain ⟨x4, rfl, i4⟩ := open_cell_int (isSome_at (j := 4) hlen (by omega)) (by simpa [Tryz.cellsInt] using hg 4 (by omega))
    obtain ⟨x5, rfl, i5⟩ := open_cell_int (isSome_at (j := 5) hlen (by omega)) (by simpa [Tryz.cellsInt] using hg 5 (by omega))
    obtain ⟨x6, rfl, i6⟩ := open_cell_int (isSome_at (j := 6) hlen (by omega)) (by simpa [Tryz.cellsInt] using hg 6 (by omega))
    obtain ⟨x7, rfl, i7⟩ := open_cell_int (isSome_at (j := 7) hlen (by omega)) (by simpa [Tryz.cellsInt] using hg 7 (by omega))
    refine ⟨⟨x0, x1, x2, x3, x4, x5, x6, x7⟩, rfl, fun k => ?_⟩
    match k with
    | 0 => exact i0
    | 1 => exact i1
    | 2 => exact i2
    | 3 => exact i3
    | 4 => exact i4
    | 5 => exact i5
    | 6 => exact i6
    | 7 => exact i7
    | k + 8 => simp [Six.l, IsInt]

set_option maxRecDepth 100000 in
/-- An address that came in. -/
theorem open_six {v : Value} {d : DataW H} {p : List MemPlace} {base : Nat} (hv : Value.okWide Tryz.prog W .any base 23 v) (h : DataW.Trod enc Tryz.prog W 0 (fun _ => true) true 23 v d p) : ∃ s : Six, v = s.v ∧ s.Is := by
  obtain ⟨fuel, hf⟩ := h
  obtain ⟨s, hs, hi⟩ := open_cells_six rfl hf
  simp only [Value.okWide, Tryz.underlying23] at hv
  obtain ⟨cs, rfl, _⟩ := hv
  refine ⟨s, ?_, hi⟩
  have : cs.toList = s.cells.toList := by simpa [Value.cells] using hs
  rw [Array.toList_inj.1 this]

def Flow.Is (f : Flow) : Prop := IsInt f.kind ∧ f.client.Is ∧ IsInt f.port ∧ f.dst.Is ∧ IsInt f.door
set_option maxRecDepth 100000 in
theorem open_cells_flow {n : Nat} {cs : List Value} {y : Option (DataW H × List MemPlace)} (hy : y.isSome = true) (h : DataW.trod enc Tryz.prog W 0 (fun _ => true) true n 50 cs = y) : ∃ f : Flow, cs = f.cells.toList ∧ f.Is := by
  obtain ⟨y, rfl⟩ := Option.isSome_iff_exists.1 hy
  obtain ⟨xs, m, _, _, hl, hlen, hg⟩ := DataW.trod_struct Tryz.underlying50 h
  match cs, hl.trans Tryz.cellsFlow with
  | [c0, c1, c2, c3, c4, c5, c6, c7, c8, c9, c10, c11, c12, c13, c14, c15, c16, c17, c18], _ =>
    obtain ⟨x0, rfl, i0⟩ := open_cell_int (isSome_at (j := 0) hlen (by simp)) (by simpa [Tryz.cellsInt] using hg 0 _ rfl)
    obtain ⟨s1, h1, i1⟩ := open_cells_six (isSome_at (j := 1) hlen (by simp)) (by simpa [Tryz.cellsSix] using hg 1 _ rfl)
    obtain ⟨x2, rfl, i2⟩ := open_cell_int (isSome_at (j := 2) hlen (by simp)) (by simpa [Tryz.cellsInt] using hg 2 _ rfl)
    obtain ⟨s3, h3, i3⟩ := open_cells_six (isSome_at (j := 3) hlen (by simp)) (by simpa [Tryz.cellsSix] using hg 3 _ rfl)
    obtain ⟨x4, rfl, i4⟩ := open_cell_int (isSome_at (j := 4) hlen (by simp)) (by simpa [Tryz.cellsInt] using hg 4 _ rfl)
    refine ⟨⟨x0, s1, x2, s3, x4⟩, ?_, i0, i1, i2, i3, i4⟩
    have e1 : [c1, c2, c3, c4, c5, c6, c7, c8] = s1.cells.toList := h1
    have e3 : [c10, c11, c12, c13, c14, c15, c16, c17] = s3.cells.toList := h3
    simp only [Six.cells, List.cons.injEq, and_true] at e1 e3
    obtain ⟨rfl, rfl, rfl, rfl, rfl, rfl, rfl, rfl⟩ := e1
    obtain ⟨rfl, rfl, rfl, rfl, rfl, rfl, rfl, rfl⟩ := e3
    rfl
set_option maxRecDepth 100000 in
theorem open_flow {v : Value} {d : DataW H} {p : List MemPlace} {base : Nat} (hv : Value.okWide Tryz.prog W .any base 50 v) (h : DataW.Trod enc Tryz.prog W 0 (fun _ => true) true 50 v d p) : ∃ f : Flow, v = f.v ∧ f.Is := by
  obtain ⟨cs, rfl, hsz⟩ := okWide_struct Tryz.underlying50 hv
  obtain ⟨fuel, hf⟩ := h
  obtain ⟨s, hs, hi⟩ := open_cells_flow rfl hf
  refine ⟨s, ?_, hi⟩
  have : cs.toList = s.cells.toList := by simpa [Value.cells] using hs
  rw [Array.toList_inj.1 this]

/-- Servers that came in. -/
def IsBacks (w : World) (a : Option Addr) (n c : Nat) (bs : List Pl.Back) : Prop := Backs w a n bs ∧ n ≤ c ∧ c ≤ maxLen
instance : Inhabited Pl.Back := ⟨Pl.back0⟩
set_option maxRecDepth 100000 in
theorem open_backs {a : Option Addr} {n c : Nat} {d : DataW H} {p : List MemPlace}
    (h : DataW.Trod enc Tryz.prog W 0 (fun _ => true) true 24 (.slice a n c) d p) : ∃ bs, IsBacks W a n c bs := by
  obtain ⟨fuel, hf⟩ := h
  rcases Go.Deep.open_slice Tryz.underlying24 hf with ⟨hcs, _⟩ | ⟨x, l, c', m, n', D, P, hcs, _, hl, hm, hmm, _, hx⟩
  · simp [Value.cells] at hcs
    obtain ⟨rfl, rfl, rfl⟩ := hcs
    exact ⟨[], ⟨rfl, .inl rfl⟩, Nat.le_refl _, Nat.zero_le _⟩
  · simp [Value.cells] at hcs
    obtain ⟨rfl, rfl, rfl⟩ := hcs
    simp only [if_true] at hmm
    subst hmm
    obtain ⟨b, off, spot⟩ := x
    have key : ∀ i, i < m → ∃ y : Pl.Back, ∀ j, j < 6 → W.cell? ((Addr.mk b off spot).add (i * 6 + j)) = (#[.int .i64 y.id, .int .i64 y.addr, .int .i64 y.door, .int .i64 y.weight, .bool y.up, .bool y.drain] : Array Value)[j]? := fun i hi => by
      obtain ⟨cs', hc', ht⟩ := hx i hi
      rw [Tryz.cellsBack] at hc'
      obtain ⟨xs, q, _, _, hl', hlen, hg⟩ := DataW.trod_struct Tryz.underlying34 ht
      obtain ⟨_, hcl, hat⟩ := World.cells?_some hc'
      match cs', hl'.trans Tryz.cellsBack with
      | [c0, c1, c2, c3, c4, c5], _ =>
        obtain ⟨x0, rfl, _⟩ := open_cell_int (isSome_at (j := 0) hlen (by simp)) (by simpa [Tryz.cellsInt] using hg 0 _ rfl)
        obtain ⟨x1, rfl, _⟩ := open_cell_int (isSome_at (j := 1) hlen (by simp)) (by simpa [Tryz.cellsInt] using hg 1 _ rfl)
        obtain ⟨x2, rfl, _⟩ := open_cell_int (isSome_at (j := 2) hlen (by simp)) (by simpa [Tryz.cellsInt] using hg 2 _ rfl)
        obtain ⟨x3, rfl, _⟩ := open_cell_int (isSome_at (j := 3) hlen (by simp)) (by simpa [Tryz.cellsInt] using hg 3 _ rfl)
        obtain ⟨x4, rfl⟩ := open_cell_bool (isSome_at (j := 4) hlen (by simp)) (by simpa [Tryz.cellsBool] using hg 4 _ rfl)
        obtain ⟨x5, rfl⟩ := open_cell_bool (isSome_at (j := 5) hlen (by simp)) (by simpa [Tryz.cellsBool] using hg 5 _ rfl)
        refine ⟨⟨x0, x1, x2, x3, x4, x5⟩, fun j hj => ?_⟩
        rw [← Go.Deep.add_add, hat j hj]
        simp
    obtain ⟨F, hF⟩ := Go.Deep.choose_lt key
    refine ⟨(List.range n).map F, ⟨by simp, ?_⟩, hl, hm⟩
    rcases Nat.eq_zero_or_pos n with h0 | h0
    · exact .inl h0
    · refine .inr ?_
      have hspot : spot = none := by
        have := hF 0 (by omega) 0 (by omega)
        simpa [Addr.add] using World.cell?_spot this
      subst hspot
      refine ⟨b, off, rfl, fun i hi => ?_⟩
      have e : ((List.range n).map F).getD i Pl.back0 = F i := by simp [List.getD, hi]
      rw [e]
      have q := hF i (by omega)
      refine ⟨?_, ?_, ?_, ?_, ?_, ?_⟩
      · have := q 0 (by omega); rw [Addr.add_lit] at this; exact this
      · have := q 1 (by omega); rw [Addr.add_lit] at this; exact this
      · have := q 2 (by omega); rw [Addr.add_lit] at this; exact this
      · have := q 3 (by omega); rw [Addr.add_lit] at this; exact this
      · have := q 4 (by omega); rw [Addr.add_lit] at this; exact this
      · have := q 5 (by omega); rw [Addr.add_lit] at this; exact this
end
end Go.Proofs.YtbjogkpepfgegaaGreatDoor
namespace Go.Proofs.YtbjogkpepfgegaaGreatDoor
open Go.RowKit
/-- An error of a number, none of 0. -/
def erv (q : Int) : Value := if q = 0 then .nilIface else errv q
theorem erv_zero : erv 0 = .nilIface := rfl
theorem erv_ne {q : Int} (h : q ≠ 0) : erv q = errv q := by unfold erv; rw [if_neg h]
end Go.Proofs.YtbjogkpepfgegaaGreatDoor
namespace Go.Proofs.YtbjogkpepfgegaaGreatDoor
open Go.RowKit
def okS (s : Six) : Bool := words s.l
theorem check6_no (s : Six) (w : World) (h : okS s = false) : Calls Tryz.prog 46 #[s.v] w fun e w' => e = .returned (errv 1) ∧ Ext w w' :=
  (check6_any s w).mono fun _ _ ⟨he, hx⟩ => ⟨by rw [he, wordsErr_no h], hx⟩
theorem check6_yes (s : Six) (w : World) (h : okS s = true) : Calls Tryz.prog 46 #[s.v] w fun e w' => e = .returned .nilIface ∧ Ext w w' :=
  (check6_any s w).mono fun _ _ ⟨he, hx⟩ => ⟨by rw [he, wordsErr_yes h], hx⟩
theorem raw6_x (s : Six) (w : World) (h : okS s = true) : Calls Tryz.prog 55 #[.agg #[.int .i64 s.x0, .int .i64 s.x1, .int .i64 s.x2, .int .i64 s.x3, .int .i64 s.x4, .int .i64 s.x5, .int .i64 s.x6, .int .i64 s.x7]] w fun e w' => ∃ v, e = .returned v ∧ Own w' w.heap.size v (Pl.two s.l) ∧ Ext w w' := raw6_any s w h
theorem Six.isB {s : Six} (h : okS s = true) : Pl.IsB (Pl.two s.l) := Pl.two_isB (fun x hx => by
  obtain ⟨i, hi, rfl⟩ := List.getElem_of_mem hx
  have := Six.Ok.at (s := s) h i
  simpa [List.getD, hi] using this)

end Go.Proofs.YtbjogkpepfgegaaGreatDoor
namespace Go.Proofs.YtbjogkpepfgegaaGreatDoor
open Go.RowKit

/-- At a store whose run is known. -/
theorem store_by {P : Program} {ops : Array Oper} {rest : List Oper} {o : Oper} {a : Act} {w : World} {Q : Exit → Act → World → Prop} (hw : Region.wanted o (yielded ops a.tmps) = true) (ty : TypeId) (x y : Operand) (ho : o.op = .store ty x y)
    (p : Addr) (hx : a.eval x = .pointer (some p)) {v : Value} {w' : World} (h : (Instr.storeAt ty (.pointer (some p)) v).run P w = .ok () w') (hy : a.eval y = v)
    (k : wpList P ops Q rest (a.put o.dst undef) w') : wpList P ops Q (o :: rest) a w := by
  refine BigFrame.wpList_want hw fun K hK => ?_
  unfold Oper.wp execOp
  simp only [ho, hx, hy, Sem.run_bind, h, Result.andThen_ok, Sem.run_pure]
  exact hK _ _ k

section
variable {w w' : World} {g : Nat} {t : TypeId} {old cs : Array Value}
theorem Blk.row (h : Blk w g t old) (cs : Array Value) : Blk (w.setRow g cs) g t cs := setRow_heap w g old cs t (0, 0) h
theorem Blk.farRow {k : Nat} (h : Blk w g t old) (hk : g ≠ k) (cs : Array Value) : Blk (w.setRow k cs) g t old := (setRow_other w k g cs hk).trans h
theorem Ext.row {a b : World} (h : Ext a b) {k : Nat} (hk : a.heap.size ≤ k) (cs : Array Value) : Ext a (b.setRow k cs) := below_setRow h hk cs
theorem only_row {a b : World} {g k : Nat} (h : a.grownBy b (some g)) (hk : a.heap.size ≤ k) (cs : Array Value) : a.grownBy (b.setRow k cs) (some g) :=
  ⟨h.os, h.tape, h.output, by simpa using h.size, fun i hi hne => (setRow_other b k i cs (by omega)).trans (h.block i hi hne)⟩
theorem Blk.store (h : Blk w g t old) {ty : TypeId} (hs : old.size = cs.size) (hi : (Tryz.prog.info? ty).map (·.size) = some cs.size) (h1 : cs.all (·.oneCell') = true) :
    (Instr.storeAt ty (.pointer (some ⟨g, 0, none⟩)) (.agg cs)).run Tryz.prog w = .ok () (w.setRow g cs) := by
  simp only [Instr.storeAt, Instr.sureAddr, Sem.run_bind, Sem.run_pure, Result.andThen_ok, run_storeVar_row w g t ty old cs h hi hs h1]
end
/-- A world is named by what is known of it, at a statement. -/
theorem at_worldE {P : Program} {c : Code} {Q : Exit → Act → World → Prop} {a : Act} {W : World} (X : World → Prop) (h : X W) (k : ∀ W', X W' → c.wp P Q a W') : c.wp P Q a W := k W h
/-- An address's eight noughts. -/
abbrev zc6 : Array Value := #[.int .i64 0, .int .i64 0, .int .i64 0, .int .i64 0, .int .i64 0, .int .i64 0, .int .i64 0, .int .i64 0]
theorem cell_off {w : World} {p q : Addr} (h : ¬ p.block = q.block) (u : Value) : (w.setCell q u).cell? p = w.cell? p := World.cell?_of_block (Below.heap_setCell w q u p.block h)
/-- Two results, the first in memory. -/
theorem results_cell2 {fn : Func} {p q : Tmp} {ty : TypeId} (h : fn.results = #[.cell p ty, .tmp q]) (tmps : Array Value) (w : World) (g : Nat) (t : TypeId) (cs : Array Value) (d : TypeDesc)
    (hp : tmps.getD p undef = .pointer (some ⟨g, 0, none⟩)) (hg : Blk w g t cs)
    (hu : Tryz.prog.underlying ty = some d) (hd : d.isRow = true) (hi : (Tryz.prog.info? ty).map (·.size) = some cs.size) :
    (results fn tmps).run Tryz.prog w = .ok (.tuple #[.agg cs, tmps.getD q undef]) w := by
  have hp' : tmps[p]?.getD undef = .pointer (some ⟨g, 0, none⟩) := by simpa using hp
  simp [results, h, hp', asAddr, run_loadVar_row w g t ty cs (0, 0) d hg hu (by cases d <;> simp_all [TypeDesc.isRow]) hi]
end Go.Proofs.YtbjogkpepfgegaaGreatDoor
namespace Go.Proofs.YtbjogkpepfgegaaGreatDoor
open Go.RowKit
namespace Pl
def at2 (l : List Int) (i : Nat) : Int := l.getD i 0 * 256 + l.getD (i + 1) 0
end Pl
/-- The address of sixteen bytes. -/
def sixAt (l : List Int) : Six := ⟨Pl.at2 l 0, Pl.at2 l 2, Pl.at2 l 4, Pl.at2 l 6, Pl.at2 l 8, Pl.at2 l 10, Pl.at2 l 12, Pl.at2 l 14⟩

set_option maxHeartbeats 1600000 in
theorem of6_any (b off n c : Nat) (xs : List Int) (w : World) (hx : Ints .u8 w (some ⟨b, off, none⟩) n xs) (hI : Pl.IsB xs) (hn : 16 ≤ n) :
    Calls Tryz.prog 60 #[.slice (some ⟨b, off, none⟩) n c] w fun e w' => e = .returned (sixAt xs).v ∧ Ext w w' := by
  obtain ⟨b', off', hbo, hbl, hc⟩ := hx.at (by omega)
  cases hbo
  have HC := Lib.hid hc
  have HI := Lib.hid hI
  clear hc hI hx
  go_enter Tryz.func60, Tryz.ntmps60
  go_wp2
  go_loopw [5] (fun i wr => ∃ k : Nat, k ≤ 8 ∧ i = .int .i64 k ∧ Below w.heap.size w wr ∧ (∀ j, wr.frozen? ⟨w.heap.size + 1, j, none⟩ = false) ∧ (∀ j, j < 8 → wr.cell? ⟨w.heap.size + 1, j, none⟩ = some (.int .i64 (if j < k then Pl.at2 xs (2 * j) else 0))) ∧ Blk wr w.heap.size 23 #[.int .i64 0, .int .i64 0, .int .i64 0, .int .i64 0, .int .i64 0, .int .i64 0, .int .i64 0, .int .i64 0]) (fun i _ => 8 - (intOf i).toNat)
  case atStart =>
    refine ⟨0, Nat.zero_le _, rfl, by go_grown, fun j => (Blk.at _ _ _ (by simp)).free j, fun j hj => ?_, (Blk.new _ _ _).alloc _⟩
    have h : j = 0 ∨ j = 1 ∨ j = 2 ∨ j = 3 ∨ j = 4 ∨ j = 5 ∨ j = 6 ∨ j = 7 := by omega
    rcases h with rfl | rfl | rfl | rfl | rfl | rfl | rfl | rfl <;> exact (Blk.at _ _ _ (by simp)).cells _
  case round =>
    obtain ⟨k, hk, rfl, hB, hF, hA, hK⟩ := hrel
    have hsz := hK.lt
    by_cases hlt : k < 8
    · have hb : b < wr.heap.size := by have := hB.size; omega
      have c0 : wr.cell? ⟨b, off + 2 * k, none⟩ = some (.int .u8 (xs.getD (2 * k) 0)) := (hB.cell (p := ⟨b, off + 2 * k, none⟩) hbl).trans (HC.out _ (by omega))
      have c1 : wr.cell? ⟨b, off + (2 * k + 1), none⟩ = some (.int .u8 (xs.getD (2 * k + 1) 0)) := (hB.cell (p := ⟨b, off + (2 * k + 1), none⟩) hbl).trans (HC.out _ (by omega))
      have hs := hA k hlt
      rw [if_neg (by omega)] at hs
      have hf := hF k
      obtain ⟨b00, b01⟩ := HI.out.getD (2 * k)
      obtain ⟨b10, b11⟩ := HI.out.getD (2 * k + 1)
      have hat : Pl.at2 xs (2 * k) = xs.getD (2 * k) 0 * 256 + xs.getD (2 * k + 1) 0 := rfl
      generalize xs.getD (2 * k) 0 = y0 at *
      generalize xs.getD (2 * k + 1) 0 = y1 at *
      have HA := Lib.hid hA
      have HF := Lib.hid hF
      have HT := Lib.hid hat
      clear hA hF hat
      have eor : bits BinOp.or IntKind.i64 (y0 * 256) y1 = y0 * 256 + y1 := or8 (by omega) (by omega) (by omega) (by omega) (by omega)
      have ew0 : IntKind.i64.wrap y0 = y0 := IntWalk.i64_in _ (by omega)
      have ew1 : IntKind.i64.wrap y1 = y1 := IntWalk.i64_in _ (by omega)
      have ew2 : IntKind.i64.wrap (y0 * 256) = y0 * 256 := IntWalk.i64_in _ (by omega)
      have i0 : (2 : Int) * (k : Int) < (n : Int) := by omega
      have i1 : (2 : Int) * (k : Int) + 1 < (n : Int) := by omega
      go_wp2_with fail
      go_region
      go_wp2
      go_roundw
      case rel =>
        refine ⟨k + 1, by omega, by go_num, ?_, ?_, ?_, ?_⟩
        · exact (hB.setCell (p := ⟨w.heap.size + 1, k, none⟩) (by show _ ≤ w.heap.size + 1; omega) _).drew
        · exact fun j => (World.frozen?_setCell ..).trans (HF.out j)
        · intro j hj
          by_cases hjk : j = k
          · subst hjk
            rw [if_pos (by omega), HT.out]
            exact World.cell?_setCell_same' _ _ _ (by rw [hs]; first | rfl | done)
          · have := HA.out j hj
            have e : (if j < k + 1 then Pl.at2 xs (2 * j) else 0) = if j < k then Pl.at2 xs (2 * j) else 0 := by
              by_cases h : j < k
              · rw [if_pos h, if_pos (by omega)]
              · rw [if_neg h, if_neg (by omega)]
            rw [e]
            exact (World.cell?_setCell_other _ _ _ _ (by simp; try omega)).trans this
        · exact (hK.far (by show w.heap.size ≠ w.heap.size + 1; omega) _).drew
      case measure => simp [intOf]; omega
    · obtain rfl : k = 8 := by omega
      have q0 := hA 0 (by omega)
      have q1 := hA 1 (by omega)
      have q2 := hA 2 (by omega)
      have q3 := hA 3 (by omega)
      have q4 := hA 4 (by omega)
      have q5 := hA 5 (by omega)
      have q6 := hA 6 (by omega)
      have q7 := hA 7 (by omega)
      have rc := hK.cells
      have rf := hK.free
      rw [if_pos (by omega)] at q0 q1 q2 q3 q4 q5 q6 q7
      clear hA
      go_wp2
      have r8 : Blk _ w.heap.size 23 (sixAt xs).cells := (((((((hK.put 0 (.int .i64 (Pl.at2 xs 0))).put 1 (.int .i64 (Pl.at2 xs 2))).put 2 (.int .i64 (Pl.at2 xs 4))).put 3 (.int .i64 (Pl.at2 xs 6))).put 4 (.int .i64 (Pl.at2 xs 8))).put 5 (.int .i64 (Pl.at2 xs 10))).put 6 (.int .i64 (Pl.at2 xs 12))).put 7 (.int .i64 (Pl.at2 xs 14))
      refine bodyPost_ret (v := (sixAt xs).v) (results_cell_row Tryz.results60 _ _ w.heap.size 23 _ (0, 0) _ rfl r8 Tryz.underlying23 rfl Tryz.size6) rfl ⟨rfl, ?_⟩
      unfold Ext
      go_grown
end Go.Proofs.YtbjogkpepfgegaaGreatDoor
namespace Go.Proofs.YtbjogkpepfgegaaGreatDoor
open Go.RowKit
namespace Pl
def longB (n : Int) : Bool := n == 32 || n == 40 || n == 48 || n == 56 || n == 64 || n == 96
theorem longB_yes {n : Int} (h : longB n = true) : n = 32 ∨ n = 40 ∨ n = 48 ∨ n = 56 ∨ n = 64 ∨ n = 96 := by
  unfold longB at h
  simp only [Bool.or_eq_true, beq_iff_eq] at h
  omega
theorem longB_no {n : Int} (h : longB n = false) : n ≠ 32 ∧ n ≠ 40 ∧ n ≠ 48 ∧ n ≠ 56 ∧ n ≠ 64 ∧ n ≠ 96 := by
  unfold longB at h
  simp only [Bool.or_eq_false_iff, beq_eq_false_iff_ne] at h
  omega
/-- Are the bytes that a prefix of n bits has no say in noughts? -/
def clean (b : List Int) (n : Int) : Prop := ∀ i : Nat, i < 16 → (i = 8 ∨ n ≤ 8 * (i : Int)) → b.getD i 0 = 0
instance (b : List Int) (n : Int) : Decidable (clean b n) := by unfold clean; infer_instance
/-- What is wrong with a prefix. -/
def pfxErr (s : Six) (n : Int) : Int := if okS s = true then (if longB n = true then (if clean (two s.l) n then 0 else 2) else 1) else 1
end Pl
theorem long_any (n : Int) (w : World) : Calls Tryz.prog 86 #[.int .i64 n] w fun e w' => e = .returned (.bool (Pl.longB n)) ∧ w = w' := by
  cases h : Pl.longB n
  case true =>
    have h' := Pl.longB_yes h
    clear h
    rcases h' with rfl | rfl | rfl | rfl | rfl | rfl
    all_goals
      go_enter Tryz.func86, Tryz.ntmps86
      go_wp2
      go_ret
      exact ⟨rfl, rfl⟩
  case false =>
    obtain ⟨h0, h1, h2, h3, h4, h5⟩ := Pl.longB_no h
    clear h
    go_enter Tryz.func86, Tryz.ntmps86
    go_wp2
    go_ret
    exact ⟨rfl, rfl⟩
set_option maxHeartbeats 1000000 in
theorem echeck_any (s : Six) (n : Int) (w : World) :
    Calls Tryz.prog 47 #[s.v, .int .i64 n] w fun e w' => e = .returned (erv (Pl.pfxErr s n)) ∧ Ext w w' := by
  have K0 := Blk.new w 23 s.cells
  have E0 : Ext w (w.alloc (.cells s.cells 23)) := (Ext.refl w).alloc _
  have l0 := K0.six0
  by_cases hs : okS s = true
  case neg =>
    have HS := Lib.hid (show okS s = false by simpa using hs)
    have HE := Lib.hid (show Pl.pfxErr s n = 1 by unfold Pl.pfxErr; rw [if_neg hs])
    clear hs
    go_enter Tryz.func47, Tryz.ntmps47
    go_wp2_with ((apply load_by rfl _ _ rfl _ rfl); (focus (with_reducible assumption)))
    refine (check6_no s _ HS.out).mono ?_
    rintro e W1 ⟨rfl, q1⟩
    have E1 := E0.trans q1
    clear l0
    unfold errv
    go_wp2_with fail
    go_ret
    exact ⟨by rw [HE.out]; rfl, E1⟩
  have HS := Lib.hid hs
  cases hl : Pl.longB n
  case false =>
    have HE := Lib.hid (show Pl.pfxErr s n = 1 by unfold Pl.pfxErr; rw [if_pos hs, hl]; rfl)
    have HL := Lib.hid hl
    clear hs hl
    go_enter Tryz.func47, Tryz.ntmps47
    go_wp2_with ((apply load_by rfl _ _ rfl _ rfl); (focus (with_reducible assumption)))
    refine (check6_yes s _ HS.out).mono ?_
    rintro e W1 ⟨rfl, q1⟩
    have E1 := E0.trans q1
    clear l0
    go_wp2_with fail
    refine (long_any n _).mono ?_
    rintro e w' ⟨rfl, rfl⟩
    rw [HL.out]
    go_wp2_with fail
    go_ret
    exact ⟨by rw [HE.out]; rfl, E1⟩
  have hn := Pl.longB_yes hl
  have HL := Lib.hid hl
  have hpe : Pl.pfxErr s n = if Pl.clean (Pl.two s.l) n then 0 else 2 := by unfold Pl.pfxErr; rw [if_pos hs, if_pos hl]
  have HPE := Lib.hid hpe
  clear hs hl hpe
  obtain ⟨m, hm4, hm8, hmn⟩ : ∃ m : Nat, 4 ≤ m ∧ m ≤ 12 ∧ n = 8 * (m : Int) := ⟨(n / 8).toNat, by omega, by omega, by omega⟩
  subst hmn
  have hdiv : IntKind.i64.wrap (Int.tdiv (8 * (m : Int)) 8) = (m : Int) := by
    rw [Int.mul_comm, Int.mul_tdiv_cancel _ (by decide)]
    exact IntWalk.i64_in _ (by omega)
  have hdiv' : Int.tdiv (8 * (m : Int)) 8 = (m : Int) := by rw [Int.mul_comm, Int.mul_tdiv_cancel _ (by decide)]
  go_enter Tryz.func47, Tryz.ntmps47
  go_wp2_with ((apply load_by rfl _ _ rfl _ rfl); (focus (with_reducible assumption)))
  refine (check6_yes s _ HS.out).mono ?_
  rintro e W1 ⟨rfl, q1⟩
  have E1 := E0.trans q1
  have K1 := K0.ext q1
  have l1 := K1.six0
  clear l0 E0 K0 q1
  go_wp2_with fail
  refine (long_any _ _).mono ?_
  rintro e w' ⟨rfl, rfl⟩
  rw [HL.out]
  go_wp2_with ((apply load_by rfl _ _ rfl _ rfl); (focus (with_reducible assumption)))
  refine (raw6_any s _ HS.out).mono ?_
  rintro e W2 ⟨v2, rfl, o2, q2⟩
  obtain ⟨a2, n2, c2, rfl, _, r2⟩ := o2.read
  obtain rfl : 16 = n2 := r2.len
  have E2 := E1.trans q2
  clear l1 E1 K1 q2 o2
  go_wp2_with fail
  obtain ⟨b, off, rfl, hbl, hc⟩ := r2.at (by decide)
  have hlx : (Pl.two s.l).length = 16 := r2.len
  clear r2 hdiv hdiv'
  generalize Pl.two s.l = xs at *
  have HC := Lib.hid hc
  have HE2 := Lib.hid E2
  clear hc E2
  go_loopw [7] (fun i wr => ∃ k : Nat, i = .int .i64 k ∧ (m ≤ k ∧ k ≤ 16) ∧ W2 = wr ∧ ∀ j, m ≤ j → j < k → xs.getD j 0 = 0) (fun i _ => 16 - (intOf i).toNat)
  case atStart => exact ⟨m, rfl, ⟨Nat.le_refl _, by omega⟩, rfl, fun j h1 h2 => by omega⟩
  case round =>
    obtain ⟨k, rfl, ⟨hk0, hk1⟩, rfl, hz⟩ := hrel
    have HZ := Lib.hid hz
    clear hz
    by_cases hlt : k < 16
    · have c0 := HC.out k hlt
      by_cases hx : xs.getD k 0 = 0
      · have HX := Lib.hid hx
        rw [hx] at c0
        clear hx
        have hk16 : (k : Int) < 16 := by omega
        go_wp2_with fail
        go_roundw
        case rel =>
          refine ⟨k + 1, by go_num, ⟨by omega, by omega⟩, trivial, fun j h1 h2 => ?_⟩
          by_cases hjk : j = k
          · subst hjk; exact HX.out
          · exact HZ.out j h1 (by omega)
        case measure => simp [intOf]; omega
      · have HX := Lib.hid hx
        have hE : Pl.pfxErr s (8 * (m : Int)) = 2 := by
          have hnc : ¬ Pl.clean xs (8 * (m : Int)) := fun h => hx (h k hlt (.inr (by omega)))
          rw [HPE.out, if_neg hnc]
        have HE := Lib.hid hE
        generalize xs.getD k 0 = x at *
        have hk16 : (k : Int) < 16 := by omega
        have hx' : (x != 0) = true := by simpa using hx
        clear hx hE
        go_wp2_with fail
        go_ret
        exact ⟨by rw [HE.out]; rfl, HE2.out⟩
    · obtain rfl : k = 16 := by omega
      have c8 := HC.out 8 (by omega)
      by_cases hx : xs.getD 8 0 = 0
      · have hE : Pl.pfxErr s (8 * (m : Int)) = 0 := by
          have hcl : Pl.clean xs (8 * (m : Int)) := fun i hi h => by
            rcases h with rfl | h
            · exact hx
            · exact HZ.out i (by omega) (by omega)
          rw [HPE.out, if_pos hcl]
        have HE := Lib.hid hE
        rw [hx] at c8
        clear hx hE
        go_wp2_with fail
        go_ret
        exact ⟨by rw [HE.out]; rfl, HE2.out⟩
      · have hE : Pl.pfxErr s (8 * (m : Int)) = 2 := by
          have hnc : ¬ Pl.clean xs (8 * (m : Int)) := fun h => hx (h 8 (by omega) (.inl rfl))
          rw [HPE.out, if_neg hnc]
        have HE := Lib.hid hE
        generalize xs.getD 8 0 = x at *
        have hx' : (x != 0) = true := by simpa using hx
        clear hx hE
        go_wp2_with fail
        go_ret
        exact ⟨by rw [HE.out]; rfl, HE2.out⟩
theorem spots_any (n : Int) (w : World) : Calls Tryz.prog 91 #[.int .i64 n] w fun e w' => e = .returned (.func (.func 107) #[] #[.pointer (some ⟨w.heap.size, 0, none⟩)]) ∧ Blk w' w.heap.size 3 #[.int .i64 n] ∧ Ext w w' := by
  have K0 := Blk.new w 3 #[.int .i64 n]
  have E0 : Ext w (w.alloc (.cells #[.int .i64 n] 3)) := (Ext.refl w).alloc _
  go_enter Tryz.func91, Tryz.ntmps91
  go_wp2
  go_ret
  exact ⟨rfl, K0, E0⟩
end Go.Proofs.YtbjogkpepfgegaaGreatDoor
