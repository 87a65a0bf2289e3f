/- Lemmas of this seat, bound together: OpenC TabU TabV TabL SegD RefG Gate0. Conditions: as each lemma states them. -/
import Derived.Test.YtbjogkpepfgegaaDoorK02
import Derived.Test.YtbjogkpepfgegaaDoorK24
import Derived.Test.YtbjogkpepfgegaaDoorK25
import Derived.Test.YtbjogkpepfgegaaDoorK26
import Derived.Test.YtbjogkpepfgegaaDoorK21
import Derived.Test.YtbjogkpepfgegaaDoorK04
import Derived.Test.YtbjogkpepfgegaaDoorK05
import Derived.Deep.RegionLaw
import Derived.Deep.RegionHeld3
import Derived.Test.YtbjogkpepfgegaaDoorK03
import Derived.Test.YtbjogkpepfgegaaDoorK23
import Derived.Test.YtbjogkpepfgegaaDoorK07
namespace Go.Proofs.YtbjogkpepfgegaaDoor
open Go.ChangeShapes Go.WideShapes Go.ChangeAt Go.RowKit
/-- A config that came in. -/
def IsCfg (w : World) (c : Cfg) (a : Option Addr) (n m : Nat) (bs : List Pl.Back) : Prop := IsBacks w a n m bs ∧ c.vip.Is ∧ IsInt c.door ∧ c.pre.Is ∧ IsInt c.len ∧ IsInt c.near ∧ IsInt c.seed ∧ IsInt c.blocks
section
variable {H : Type} {enc : TypeId × Value → H} {W : World}
theorem Tryd.cellsCfg : Tryd.prog.cellsOf 26 = 23 := by kernel_rfl
theorem Tryd.cellsBacks : Tryd.prog.cellsOf 24 = 1 := by kernel_rfl
theorem open_field_backs {n : Nat} {c : Value} {y : Option (DataW H × List MemPlace)} (hy : y.isSome = true) (h : DataW.trod enc Tryd.prog W 0 (fun _ => true) true n 24 [c] = y) : ∃ a l k bs, c = .slice a l k ∧ IsBacks W a l k bs := by
  obtain ⟨⟨d, p⟩, rfl⟩ := Option.isSome_iff_exists.1 hy
  have hs : ∃ a l k, c = .slice a l k := by
    rcases Go.Deep.open_slice Tryd.underlying24 h with ⟨hcs, _⟩ | ⟨x, l, c', m, n', D, P, hcs, _⟩
    · exact ⟨none, 0, 0, by simpa using hcs⟩
    · exact ⟨some x, l, _, by simpa using hcs⟩
  obtain ⟨a, l, k, rfl⟩ := hs
  obtain ⟨bs, hb⟩ := open_backs (a := a) (n := l) (c := k) (d := d) (p := p) (W := W) (enc := enc) ⟨n, by simpa [Value.cells] using h⟩
  exact ⟨a, l, k, bs, rfl, hb⟩
set_option maxRecDepth 100000 in
theorem open_cfg {v : Value} {d : DataW H} {p : List MemPlace} {base : Nat} (hv : Value.okWide Tryd.prog W .any base 26 v) (h : DataW.Trod enc Tryd.prog W 0 (fun _ => true) true 26 v d p) :
    ∃ (q : Cfg) (a : Option Addr) (n m : Nat) (bs : List Pl.Back), v = q.v (.slice a n m) ∧ IsCfg W q a n m bs := by
  obtain ⟨cs, rfl, hsz⟩ := okWide_struct Tryd.underlying26 hv
  obtain ⟨l⟩ := cs
  match l, hsz.trans Tryd.cellsCfg with
  | [c0, c1, c2, c3, c4, c5, c6, c7, c8, c9, c10, c11, c12, c13, c14, c15, c16, c17, c18, c19, c20, c21, c22], _ =>
    obtain ⟨fuel, hf⟩ := h
    obtain ⟨xs, m, _, _, _, hlen, hg⟩ := DataW.trod_struct Tryd.underlying26 hf
    obtain ⟨s0, h0, i0⟩ := open_cells_six (isSome_at (j := 0) hlen (by simp)) (by simpa [Value.cells, Tryd.cellsSix] using hg 0 _ rfl)
    obtain ⟨x1, rfl, i1⟩ := open_cell_int (isSome_at (j := 1) hlen (by simp)) (by simpa [Value.cells, Tryd.cellsInt] using hg 1 _ rfl)
    obtain ⟨s2, h2, i2⟩ := open_cells_six (isSome_at (j := 2) hlen (by simp)) (by simpa [Value.cells, Tryd.cellsSix] using hg 2 _ rfl)
    obtain ⟨x3, rfl, i3⟩ := open_cell_int (isSome_at (j := 3) hlen (by simp)) (by simpa [Value.cells, Tryd.cellsInt] using hg 3 _ rfl)
    obtain ⟨x4, rfl, i4⟩ := open_cell_int (isSome_at (j := 4) hlen (by simp)) (by simpa [Value.cells, Tryd.cellsInt] using hg 4 _ rfl)
    obtain ⟨x5, rfl, i5⟩ := open_cell_int (isSome_at (j := 5) hlen (by simp)) (by simpa [Value.cells, Tryd.cellsInt] using hg 5 _ rfl)
    obtain ⟨x6, rfl, i6⟩ := open_cell_int (isSome_at (j := 6) hlen (by simp)) (by simpa [Value.cells, Tryd.cellsInt] using hg 6 _ rfl)
    obtain ⟨b7, rfl⟩ := open_cell_bool (isSome_at (j := 7) hlen (by simp)) (by simpa [Value.cells, Tryd.cellsBool] using hg 7 _ rfl)
    obtain ⟨a, n, k, bs, rfl, hb⟩ := open_field_backs (isSome_at (j := 8) hlen (by simp)) (by simpa [Value.cells, Tryd.cellsBacks] using hg 8 _ rfl)
    refine ⟨⟨s0, x1, s2, x3, x4, x5, x6, b7⟩, a, n, k, bs, ?_, hb, i0, i1, i2, i3, i4, i5, i6⟩
    have e0 : [c0, c1, c2, c3, c4, c5, c6, c7] = s0.cells.toList := h0
    have e2 : [c9, c10, c11, c12, c13, c14, c15, c16] = s2.cells.toList := h2
    simp only [Six.cells, List.cons.injEq, and_true] at e0 e2
    obtain ⟨rfl, rfl, rfl, rfl, rfl, rfl, rfl, rfl⟩ := e0
    obtain ⟨rfl, rfl, rfl, rfl, rfl, rfl, rfl, rfl⟩ := e2
    rfl
end
end Go.Proofs.YtbjogkpepfgegaaDoor
namespace Go.Proofs.YtbjogkpepfgegaaDoor
open Go.RowKit
set_option maxRecDepth 100000 in
theorem btick_any (n : Int) (w : World) : Calls Tryd.prog 76 #[.int .i64 n] w fun e w' => e = .returned (.bool (decide (0 ≤ n) && decide (n ≤ 1099511627776))) ∧ w' = w := by
  by_cases h0 : 0 ≤ n
  · have e0 : decide (n ≥ 0) = true := by simpa using h0
    go_enter Tryd.func76, Tryd.ntmps76
    go_wp2
    go_ret
    simp [h0]
  · have e0 : decide (n ≥ 0) = false := by simpa using h0
    go_enter Tryd.func76, Tryd.ntmps76
    go_wp2
    go_ret
    simp
set_option maxRecDepth 100000 in
set_option maxHeartbeats 2000000 in
theorem tuse_none (gT gP gB gF gN : Nat) (s : PS) (l : List Te) (cF cN : Nat) (near now : Int) (w : World) (h : Tab w gT gP gB gF gN s l cF cN) (hn : nearIn near l = none) :
    Calls Tryd.prog 43 #[.pointer (some ⟨gT, 0, none⟩), .int .i64 near, .int .i64 now] w fun e w' => e = .returned (errv 4) ∧ Ext w w' := by
  have m1 := h.nears.lookup keyI_finds 118 92 Tryd.underlying118 zeroBd.v (zero_bind w) near true
  unfold nearIn at hn
  rw [hn] at m1
  dsimp only [keyI] at m1
  have c2 : w.cell? ⟨gT, 2, none⟩ = some (.map (some gN)) := h.ptr.cells 2
  have K := Blk.new w 92 #[.int .i64 0, .int .i64 0, .int .i64 0, .int .i64 0, .int .i64 0, .int .i64 0, .int .i64 0, .int .i64 0, .int .i64 0, .int .i64 0, .int .i64 0, .int .i64 0, .int .i64 0, .int .i64 0, .int .i64 0, .int .i64 0, .int .i64 0, .int .i64 0, .int .i64 0, .int .i64 0, .int .i64 0, .int .i64 0, .int .i64 0]
  have st := stoBd K zeroBd
  have HE := Lib.hid (((Ext.refl w).alloc (.cells #[.int .i64 0, .int .i64 0, .int .i64 0, .int .i64 0, .int .i64 0, .int .i64 0, .int .i64 0, .int .i64 0, .int .i64 0, .int .i64 0, .int .i64 0, .int .i64 0, .int .i64 0, .int .i64 0, .int .i64 0, .int .i64 0, .int .i64 0, .int .i64 0, .int .i64 0, .int .i64 0, .int .i64 0, .int .i64 0, .int .i64 0] 92)).row (k := w.heap.size) (Nat.le_refl _) zeroBd.cells)
  clear h hn K
  go_enter Tryd.func43, Tryd.ntmps43
  go_wp2_with ((apply store_by rfl _ _ _ rfl _ rfl); (focus (with_reducible assumption)); (focus rfl))
  go_returns
  exact ⟨rfl, HE.out⟩
set_option maxRecDepth 100000 in
set_option maxHeartbeats 2000000 in
theorem tuse_tick (gT gP gB gF gN : Nat) (s : PS) (l : List Te) (cF cN : Nat) (near now : Int) (w : World) (h : Tab w gT gP gB gF gN s l cF cN) (i : Nat) (b : Bd) (hn : nearIn near l = some (i, b.v)) (hb : (decide (0 ≤ now) && decide (now ≤ 1099511627776)) = false) :
    Calls Tryd.prog 43 #[.pointer (some ⟨gT, 0, none⟩), .int .i64 near, .int .i64 now] w fun e w' => e = .returned (errv 1) ∧ Ext w w' := by
  have m1 := h.nears.lookup keyI_finds 118 92 Tryd.underlying118 zeroBd.v (zero_bind w) near true
  unfold nearIn at hn
  rw [hn] at m1
  dsimp only [keyI] at m1
  have c2 : w.cell? ⟨gT, 2, none⟩ = some (.map (some gN)) := h.ptr.cells 2
  have K := Blk.new w 92 #[.int .i64 0, .int .i64 0, .int .i64 0, .int .i64 0, .int .i64 0, .int .i64 0, .int .i64 0, .int .i64 0, .int .i64 0, .int .i64 0, .int .i64 0, .int .i64 0, .int .i64 0, .int .i64 0, .int .i64 0, .int .i64 0, .int .i64 0, .int .i64 0, .int .i64 0, .int .i64 0, .int .i64 0, .int .i64 0, .int .i64 0]
  have st := stoBd K b
  have KB := K.row b.cells
  have HE := Lib.hid (((Ext.refl w).alloc (.cells #[.int .i64 0, .int .i64 0, .int .i64 0, .int .i64 0, .int .i64 0, .int .i64 0, .int .i64 0, .int .i64 0, .int .i64 0, .int .i64 0, .int .i64 0, .int .i64 0, .int .i64 0, .int .i64 0, .int .i64 0, .int .i64 0, .int .i64 0, .int .i64 0, .int .i64 0, .int .i64 0, .int .i64 0, .int .i64 0, .int .i64 0] 92)).row (k := w.heap.size) (Nat.le_refl _) b.cells)
  clear h hn K
  go_enter Tryd.func43, Tryd.ntmps43
  go_wp2_with ((apply store_by rfl _ _ _ rfl _ rfl); (focus (with_reducible assumption)); (focus rfl))
  refine (btick_any now _).mono ?_
  rintro e w' ⟨rfl, rfl⟩
  rw [hb]
  go_wp2_with fail
  go_returns
  exact ⟨rfl, HE.out⟩
set_option maxRecDepth 100000 in
set_option maxHeartbeats 2000000 in
theorem tuse_past (gT gP gB gF gN : Nat) (s : PS) (l : List Te) (cF cN : Nat) (near now : Int) (w : World) (h : Tab w gT gP gB gF gN s l cF cN) (i : Nat) (b : Bd) (hn : nearIn near l = some (i, b.v)) (hb : (decide (0 ≤ now) && decide (now ≤ 1099511627776)) = true) (hl : now < b.last) :
    Calls Tryd.prog 43 #[.pointer (some ⟨gT, 0, none⟩), .int .i64 near, .int .i64 now] w fun e w' => e = .returned (errv 9) ∧ Ext w w' := by
  have m1 := h.nears.lookup keyI_finds 118 92 Tryd.underlying118 zeroBd.v (zero_bind w) near true
  unfold nearIn at hn
  rw [hn] at m1
  dsimp only [keyI] at m1
  have c2 : w.cell? ⟨gT, 2, none⟩ = some (.map (some gN)) := h.ptr.cells 2
  have K := Blk.new w 92 #[.int .i64 0, .int .i64 0, .int .i64 0, .int .i64 0, .int .i64 0, .int .i64 0, .int .i64 0, .int .i64 0, .int .i64 0, .int .i64 0, .int .i64 0, .int .i64 0, .int .i64 0, .int .i64 0, .int .i64 0, .int .i64 0, .int .i64 0, .int .i64 0, .int .i64 0, .int .i64 0, .int .i64 0, .int .i64 0, .int .i64 0]
  have st := stoBd K b
  have KB := K.row b.cells
  have HE := Lib.hid (((Ext.refl w).alloc (.cells #[.int .i64 0, .int .i64 0, .int .i64 0, .int .i64 0, .int .i64 0, .int .i64 0, .int .i64 0, .int .i64 0, .int .i64 0, .int .i64 0, .int .i64 0, .int .i64 0, .int .i64 0, .int .i64 0, .int .i64 0, .int .i64 0, .int .i64 0, .int .i64 0, .int .i64 0, .int .i64 0, .int .i64 0, .int .i64 0, .int .i64 0] 92)).row (k := w.heap.size) (Nat.le_refl _) b.cells)
  have c22 := KB.cells 22
  change _ = some (Value.int .i64 b.last) at c22
  have hl' : decide (now < b.last) = true := by simpa using hl
  clear h hn K
  go_enter Tryd.func43, Tryd.ntmps43
  go_wp2_with ((apply store_by rfl _ _ _ rfl _ rfl); (focus (with_reducible assumption)); (focus rfl))
  refine (btick_any now _).mono ?_
  rintro e w' ⟨rfl, rfl⟩
  rw [hb]
  go_wp2_with fail
  go_returns
  exact ⟨rfl, HE.out⟩
end Go.Proofs.YtbjogkpepfgegaaDoor
namespace Go.Proofs.YtbjogkpepfgegaaDoor
open Go.RowKit
/-- A bind that is used. -/
def Bd.at (b : Bd) (now : Int) : Bd := { b with last := now }
set_option maxRecDepth 100000 in
set_option maxHeartbeats 2000000 in
theorem tuse_put (gT gP gB gF gN : Nat) (s : PS) (l : List Te) (cF cN : Nat) (near now : Int) (w : World) (h : Tab w gT gP gB gF gN s l cF cN) (i : Nat) (b : Bd) (hn : nearIn near l = some (i, b.v)) (hb : (decide (0 ≤ now) && decide (now ≤ 1099511627776)) = true) (hl : ¬ now < b.last) :
    Calls Tryd.prog 43 #[.pointer (some ⟨gT, 0, none⟩), .int .i64 near, .int .i64 now] w fun e w' => e = .returned .nilIface ∧ ∃ W, Ext w W ∧ w' = putMap keyI W gN (setVal (l.map Te.inN) i (b.at now).v) cN := by
  have m1 := h.nears.lookup keyI_finds 118 92 Tryd.underlying118 zeroBd.v (zero_bind w) near true
  unfold nearIn at hn
  have hlt := h.nears.lt
  have hTN : gT ≠ gN := by
    have := h.apart
    simp at this
    omega
  have HU := Lib.hid (fun w' (E : Ext w w') => (h.nears.ext E).update keyI_finds 118 92 Tryd.underlying118 near (b.at now).v b.v i hn)
  have HC := Lib.hid (fun w' (E : Ext w w') => (show w'.cell? ⟨gT, 2, none⟩ = some (.map (some gN)) from (h.ptr.ext E).cells 2))
  rw [hn] at m1
  dsimp only [keyI] at m1
  have c2 : w.cell? ⟨gT, 2, none⟩ = some (.map (some gN)) := h.ptr.cells 2
  have K := Blk.new w 92 #[.int .i64 0, .int .i64 0, .int .i64 0, .int .i64 0, .int .i64 0, .int .i64 0, .int .i64 0, .int .i64 0, .int .i64 0, .int .i64 0, .int .i64 0, .int .i64 0, .int .i64 0, .int .i64 0, .int .i64 0, .int .i64 0, .int .i64 0, .int .i64 0, .int .i64 0, .int .i64 0, .int .i64 0, .int .i64 0, .int .i64 0]
  have st := stoBd K b
  have KB := K.row b.cells
  have E1 := ((Ext.refl w).alloc (.cells #[.int .i64 0, .int .i64 0, .int .i64 0, .int .i64 0, .int .i64 0, .int .i64 0, .int .i64 0, .int .i64 0, .int .i64 0, .int .i64 0, .int .i64 0, .int .i64 0, .int .i64 0, .int .i64 0, .int .i64 0, .int .i64 0, .int .i64 0, .int .i64 0, .int .i64 0, .int .i64 0, .int .i64 0, .int .i64 0, .int .i64 0] 92)).row (k := w.heap.size) (Nat.le_refl _) b.cells
  have c22 := KB.cells 22
  change _ = some (Value.int .i64 b.last) at c22
  have fr := KB.free 22
  have hl' : decide (now < b.last) = false := by simpa using hl
  have KN : Blk _ w.heap.size 92 (b.at now).cells := KB.put 22 (.int .i64 now)
  have E2 := E1.set (p := ⟨w.heap.size, 22, none⟩) (Nat.le_refl _) (.int .i64 now)
  have HX := Lib.hid (And.intro KN E2)
  clear h hn K KB E1 KN E2
  go_enter Tryd.func43, Tryd.ntmps43
  go_wp2_with ((apply store_by rfl _ _ _ rfl _ rfl); (focus (with_reducible assumption)); (focus rfl))
  refine (btick_any now _).mono ?_
  rintro e w' ⟨rfl, rfl⟩
  rw [hb]
  go_wp2_with fail
  refine at_worldE (fun W => Blk W w.heap.size 92 (b.at now).cells ∧ Ext w W) HX.out ?_
  rintro W1 ⟨K1, E1⟩
  clear c2 c22 fr st m1 HX
  refine wp_region_held_drew (S := (fun w' => w'.cell? ⟨gT, 2, none⟩ = some (.map (some gN)) ∧ Blk w' w.heap.size 92 (b.at now).cells)) (by kernel_rfl) ⟨HC.out _ E1.drew, Blk.drew K1⟩ (fun hS0 => ?_)
  have EX := E1.drew
  have KX := Blk.drew K1
  clear E1 K1
  generalize W1.drew = V at *
  (refine wpAnyH_take (i := 0) (v := ?_) rfl (by kernel_rfl) (by kernel_rfl) (by kernel_rfl) (fun _ _ _ h => h) (Or.inl ⟨by rfl, ?_⟩) (by assumption) ?_; rotate_left; focus (intro w hSw; (try dsimp only at hSw); go_simp; try with_reducible rfl); try simp only [Act.put, List.getElem_toArray, List.getElem_cons_succ, List.getElem_cons_zero, List.setIfInBounds_toArray, List.set_cons_zero, List.set_cons_succ])
  (refine wpAnyH_take (i := 1) (v := ?_) rfl (by kernel_rfl) (by kernel_rfl) (by kernel_rfl) (fun _ _ _ h => h) (Or.inl ⟨by rfl, ?_⟩) (by assumption) ?_; rotate_left; focus (intro w hSw; (try dsimp only at hSw); go_simp; try with_reducible rfl); try simp only [Act.put, List.getElem_toArray, List.getElem_cons_succ, List.getElem_cons_zero, List.setIfInBounds_toArray, List.set_cons_zero, List.set_cons_succ])
  (refine wpAnyH_take (i := 2) (v := ?_) rfl (by kernel_rfl) (by kernel_rfl) (by kernel_rfl) (fun _ _ _ h => h) (Or.inl ⟨by rfl, ?_⟩) (by assumption) ?_; rotate_left; focus (intro w hSw; (try dsimp only at hSw); go_simp; try with_reducible rfl); try simp only [Act.put, List.getElem_toArray, List.getElem_cons_succ, List.getElem_cons_zero, List.setIfInBounds_toArray, List.set_cons_zero, List.set_cons_succ])
  (refine wpAnyH_take (i := 4) (v := ?_) rfl (by kernel_rfl) (by kernel_rfl) (by kernel_rfl) (fun _ _ _ h => h) (Or.inl ⟨by rfl, ?_⟩) (by assumption) ?_; rotate_left; focus (intro w hSw; (try dsimp only at hSw); go_simp; try with_reducible rfl); try simp only [Act.put, List.getElem_toArray, List.getElem_cons_succ, List.getElem_cons_zero, List.setIfInBounds_toArray, List.set_cons_zero, List.set_cons_succ])
  (refine wpAnyH_take (i := 3) (v := ?_) rfl (by kernel_rfl) (by kernel_rfl) (by kernel_rfl) (fun _ _ _ h => h) (Or.inl ⟨by rfl, ?_⟩) (by assumption) ?_; rotate_left; focus (intro w hSw; (try dsimp only at hSw); go_simp; try with_reducible rfl); try simp only [Act.put, List.getElem_toArray, List.getElem_cons_succ, List.getElem_cons_zero, List.setIfInBounds_toArray, List.set_cons_zero, List.set_cons_succ])
  refine wpAnyH_take (i := 5) rfl (by kernel_rfl) (by kernel_rfl) (by kernel_rfl) (fun _ _ _ h => h) (Or.inl ⟨by rfl, fun W hS => exec_load rfl rfl (loaBd hS.2)⟩) (by assumption) ?_
  (try simp only [Act.put, List.getElem_toArray, List.getElem_cons_succ, List.getElem_cons_zero, List.setIfInBounds_toArray, List.set_cons_zero, List.set_cons_succ])
  (refine wpAnyH_ready (rs := [6]) (by kernel_rfl) (by simp) ?_; refine AllReadyH.cons rfl (fun K hK => ?_) AllReadyH.nil)
  have hu : (Instr.mapUpdate 118 (.map (some gN)) (.int .i64 near) (.agg (b.at now).cells)).run Tryd.prog V = .ok () (putMap keyI V gN (setVal (l.map Te.inN) i (b.at now).v) cN) := HU.out V EX
  go_simp
  refine hK.out _ _ ⟨(World.cell?_of_block (putMap_other keyI V gN _ cN hTN)).trans (HC.out V EX), (putMap_other keyI V gN _ cN (by omega)).trans KX⟩ ?_
  clear hK K
  intro hS
  (try simp only [Act.put, List.getElem_toArray, List.getElem_cons_succ, List.getElem_cons_zero, List.setIfInBounds_toArray, List.set_cons_zero, List.set_cons_succ])
  refine wpAnyH_done (by kernel_rfl) ?_ _
  go_wp2_with fail
  go_returns
  exact ⟨rfl, V, EX, rfl⟩
end Go.Proofs.YtbjogkpepfgegaaDoor
namespace Go.Proofs.YtbjogkpepfgegaaDoor
open Go.RowKit
/-- The entries when the i-th bind is used. -/
def useT (l : List Te) (i : Nat) (now : Int) : List Te := l.modify i fun x => { x with b := x.b.at now }
theorem useT_inF (l : List Te) (i : Nat) (now : Int) : (useT l i now).map Te.inF = l.map Te.inF := by
  unfold useT
  refine List.ext_getElem? fun j => ?_
  rw [List.getElem?_map, List.getElem?_map, List.getElem?_modify]
  by_cases hj : i = j
  · subst hj
    cases l[i]? <;> simp [Te.inF, Bd.at]
  · simp [hj]
theorem useT_inN (l : List Te) (i : Nat) (now : Int) (b : Bd) (x : Te) (hx : l[i]? = some x) (hb : x.b = b) : (useT l i now).map Te.inN = setVal (l.map Te.inN) i (b.at now).v := by
  unfold useT setVal
  refine List.ext_getElem? fun j => ?_
  rw [List.getElem?_map, List.getElem?_modify, List.getElem?_modify, List.getElem?_map]
  by_cases hj : i = j
  · subst hj
    subst hb
    simp [hx, Te.inN, Bd.at]
  · simp [hj]
/-- The table behind a Use. -/
theorem Tab.use {w W : World} {gT gP gB gF gN : Nat} {s : PS} {l : List Te} {cF cN : Nat} (h : Tab w gT gP gB gF gN s l cF cN) (E : Ext w W) (i : Nat) (now : Int) (x : Te) (hx : l[i]? = some x) :
    Tab (putMap keyI W gN (setVal (l.map Te.inN) i (x.b.at now).v) cN) gT gP gB gF gN s (useT l i now) cF cN := by
  have ha := h.apart
  simp at ha
  have hG := putMap_grown keyI W gN (setVal (l.map Te.inN) i (x.b.at now).v) cN
  have hN := (h.nears.ext E).put (setVal (l.map Te.inN) i (x.b.at now).v) cN (fun y hy => by
    obtain ⟨j, hj⟩ := List.mem_iff_getElem?.1 hy
    unfold setVal at hj
    rw [List.getElem?_modify] at hj
    cases hq : (l.map Te.inN)[j]? with
    | none => simp [hq] at hj
    | some q =>
      have := h.nears.old q (List.mem_of_getElem? hq)
      rw [hq] at hj
      split at hj <;> (simp at hj; subst hj; exact this))
  refine ⟨(putMap_other keyI W gN _ cN (by omega)).trans (h.ptr.ext E), (h.prt.ext E).only hG (by simp; omega) (by simp; omega), ?_, ?_, h.apart⟩
  · rw [useT_inF]
    exact (h.flows.ext E).only hG (by simp; omega)
  · rw [useT_inN l i now x.b x hx rfl]
    exact hN
end Go.Proofs.YtbjogkpepfgegaaDoor
namespace Go.Proofs.YtbjogkpepfgegaaDoor
open Go.RowKit
set_option maxRecDepth 100000 in
set_option maxHeartbeats 800000 in
theorem snumber_any (a : Option Addr) (n c : Nat) (xs : List Int) (w : World) (hr : Ints .u8 w a n xs) (hb : Pl.IsB xs) (hn : 2 ≤ n) :
    Calls Tryd.prog 75 #[.slice a n c] w fun e w' => e = .returned (.int .i64 (Pl.at2 xs 0)) ∧ ∃ q, w' = w.drewN q := by
  obtain ⟨b, off, rfl, _, hc⟩ := hr.at (by omega)
  have h0 : w.cell? ⟨b, off, none⟩ = _ := hc 0 (by omega)
  have h1 := hc 1 (by omega)
  have b0 := hb.getD 0
  have b1 := hb.getD 1
  have HV := Lib.hid (show Pl.at2 xs 0 = xs.getD 0 0 * 256 + xs.getD 1 0 from rfl)
  generalize xs.getD 0 0 = x at *
  generalize xs.getD 1 0 = y at *
  obtain ⟨x0, x1⟩ := b0
  obtain ⟨y0, y1⟩ := b1
  have l0 : (0 : Int) < (n : Int) := by omega
  have l1 : (1 : Int) < (n : Int) := by omega
  clear hc hr hb
  go_enter Tryd.func75, Tryd.ntmps75
  go_wp2_with fail
  go_quiet (fail)
  go_wp2
  go_ret
  refine ⟨ret_int ?_, nq, rfl⟩
  rw [HV.out, or8 (x := x * 256) (y := y) (by omega) (by omega) (by omega) (by omega) (by omega)]

/-- The segment, its bytes. -/
def Pl.segV (k : Int) (xs : List Int) (over : Int) : Sg := if Pl.segQ k xs over = 0 then Pl.decSeg k xs else ⟨0, 0, 0, 0, 0, 0, 0⟩
def Pl.segD (k : Int) (xs : List Int) (over : Int) : List Int := if Pl.segQ k xs over = 0 then xs.drop (Pl.segSize k) else []
/-- What Decode gives. -/
def DecGot (k : Int) (xs : List Int) (over : Int) (w : World) (e : Ending) (w' : World) : Prop :=
  ∃ v, e = .returned (.tuple #[(Pl.segV k xs over).v v, erv (Pl.segQ k xs over)]) ∧ Own w' w.heap.size v (Pl.segD k xs over) ∧ Ext w w'
theorem decGot_bad {k over q : Int} {xs : List Int} {w w' : World} (h : Pl.segQ k xs over = q) (hq : q ≠ 0) (he : Ext w w') : DecGot k xs over w (.returned (.tuple #[.agg #[.int .i64 0, .int .i64 0, .int .i64 0, .int .i64 0, .int .i64 0, .int .i64 0, .int .i64 0, .slice none 0 0], errv q])) w' := by
  refine ⟨.slice none 0 0, ?_, ?_, he⟩
  · unfold Pl.segV
    rw [h, if_neg hq, erv_ne hq]
    rfl
  · unfold Pl.segD
    rw [h, if_neg hq]
    exact Own.nil _ _

set_option maxRecDepth 100000 in
set_option maxHeartbeats 2000000 in
theorem sdecode_bad (k : Int) (a : Option Addr) (n c : Nat) (xs : List Int) (over : Int) (w : World) (h : ¬ (k = 6 ∨ k = 17) ∨ ¬ Pl.Word over) :
    Calls Tryd.prog 40 #[.int .i64 k, .slice a n c, .int .i64 over] w (DecGot k xs over w) := by
  have HQ := Lib.hid (show Pl.segQ k xs over = 1 by unfold Pl.segQ; rw [if_pos h])
  have KR := Blk.new w 38 #[.int .i64 0, .int .i64 0, .int .i64 0, .int .i64 0, .int .i64 0, .int .i64 0, .int .i64 0, .slice none 0 0]
  have E0 : Ext w (w.alloc (.cells #[.int .i64 0, .int .i64 0, .int .i64 0, .int .i64 0, .int .i64 0, .int .i64 0, .int .i64 0, .slice none 0 0] 38)) := (Ext.refl w).alloc _
  have s0 := sto KR ⟨0, 0, 0, 0, 0, 0, 0⟩ none 0 0
  by_cases hk : k = 6 ∨ k = 17
  case neg =>
    have hkk : (k == 6 || k == 17) = false := by simp; omega
    clear h hk
    go_enter Tryd.func40, Tryd.ntmps40
    go_wp2_with fail
    refine (known_any _ _).mono ?_
    rintro e w' ⟨rfl, rfl⟩
    rw [hkk]
    go_wp2_with ((apply store_by rfl _ _ _ rfl _ rfl); (focus (with_reducible assumption)); (focus rfl))
    refine bodyPost_ret (results_cell2 Tryd.results40 _ _ w.heap.size 38 #[.int .i64 0, .int .i64 0, .int .i64 0, .int .i64 0, .int .i64 0, .int .i64 0, .int .i64 0, .slice none 0 0] _ rfl (KR.row _) Tryd.underlying38 rfl Tryd.sizeSeg) rfl (decGot_bad HQ.out (by decide) (E0.row (Nat.le_refl _) _))
  have hkk : (k == 6 || k == 17) = true := by simp; omega
  have HO := Lib.hid (show ¬ Pl.Word over from fun ho => by rcases h with h | h; exact h hk; exact h ho)
  clear h hk
  go_enter Tryd.func40, Tryd.ntmps40
  go_wp2_with fail
  refine (known_any _ _).mono ?_
  rintro e w' ⟨rfl, rfl⟩
  rw [hkk]
  go_wp2_with fail
  refine (sword_no over _ HO.out).mono ?_
  rintro e w' ⟨rfl, rfl⟩
  go_wp2_with ((apply store_by rfl _ _ _ rfl _ rfl); (focus (with_reducible assumption)); (focus rfl))
  refine bodyPost_ret (results_cell2 Tryd.results40 _ _ w.heap.size 38 #[.int .i64 0, .int .i64 0, .int .i64 0, .int .i64 0, .int .i64 0, .int .i64 0, .int .i64 0, .slice none 0 0] _ rfl (KR.row _) Tryd.underlying38 rfl Tryd.sizeSeg) rfl (decGot_bad HQ.out (by decide) (E0.row (Nat.le_refl _) _))
theorem head_6 (w : World) : Calls Tryd.prog 70 #[.int .i64 6] w fun e w' => e = .returned (.tuple #[.int .i64 20, .int .i64 16]) ∧ w = w' := head_any 6 w (.inl rfl)
theorem head_17 (w : World) : Calls Tryd.prog 70 #[.int .i64 17] w fun e w' => e = .returned (.tuple #[.int .i64 8, .int .i64 6]) ∧ w = w' := head_any 17 w (.inr rfl)

set_option maxRecDepth 100000 in
set_option maxHeartbeats 2000000 in
theorem sdecode_short6 (a : Option Addr) (n c : Nat) (xs : List Int) (over : Int) (w : World) (hr : Ints .u8 w a n xs) (ho : Pl.Word over) (h : n < 20 ∨ 320 < n) :
    Calls Tryd.prog 40 #[.int .i64 6, .slice a n c, .int .i64 over] w (DecGot 6 xs over w) := by
  have hl := hr.len
  have HQ := Lib.hid (show Pl.segQ 6 xs over = 5 by
    unfold Pl.segQ
    rw [if_neg (by rintro (h1 | h1); exact h1 (by decide); exact h1 ho), if_pos]
    rintro ⟨h2, _⟩
    rw [show Pl.segSize 6 = 20 from rfl] at h2
    omega)
  have KR := Blk.new w 38 #[.int .i64 0, .int .i64 0, .int .i64 0, .int .i64 0, .int .i64 0, .int .i64 0, .int .i64 0, .slice none 0 0]
  have E0 : Ext w (w.alloc (.cells #[.int .i64 0, .int .i64 0, .int .i64 0, .int .i64 0, .int .i64 0, .int .i64 0, .int .i64 0, .slice none 0 0] 38)) := (Ext.refl w).alloc _
  have s0 := sto KR ⟨0, 0, 0, 0, 0, 0, 0⟩ none 0 0
  have HO := Lib.hid ho
  clear ho
  rcases h with h | h
  · have h' : (n : Int) < 20 := by omega
    clear h
    go_enter Tryd.func40, Tryd.ntmps40
    go_wp2_with fail
    refine (known_any _ _).mono ?_
    rintro e w' ⟨rfl, rfl⟩
    go_wp2_with fail
    refine (sword_yes over _ HO.out).mono ?_
    rintro e w' ⟨rfl, rfl⟩
    go_wp2_with fail
    refine (head_6 _).mono ?_
    rintro e w' ⟨rfl, rfl⟩
    go_wp2_with ((apply store_by rfl _ _ _ rfl _ rfl); (focus (with_reducible assumption)); (focus rfl))
    refine bodyPost_ret (results_cell2 Tryd.results40 _ _ w.heap.size 38 #[.int .i64 0, .int .i64 0, .int .i64 0, .int .i64 0, .int .i64 0, .int .i64 0, .int .i64 0, .slice none 0 0] _ rfl (KR.row _) Tryd.underlying38 rfl Tryd.sizeSeg) rfl (decGot_bad HQ.out (by decide) (E0.row (Nat.le_refl _) _))
  · have h' : (320 : Int) < (n : Int) := by omega
    have h'' : ¬ (n : Int) < 20 := by omega
    clear h
    go_enter Tryd.func40, Tryd.ntmps40
    go_wp2_with fail
    refine (known_any _ _).mono ?_
    rintro e w' ⟨rfl, rfl⟩
    go_wp2_with fail
    refine (sword_yes over _ HO.out).mono ?_
    rintro e w' ⟨rfl, rfl⟩
    go_wp2_with fail
    refine (head_6 _).mono ?_
    rintro e w' ⟨rfl, rfl⟩
    go_wp2_with ((apply store_by rfl _ _ _ rfl _ rfl); (focus (with_reducible assumption)); (focus rfl))
    refine bodyPost_ret (results_cell2 Tryd.results40 _ _ w.heap.size 38 #[.int .i64 0, .int .i64 0, .int .i64 0, .int .i64 0, .int .i64 0, .int .i64 0, .int .i64 0, .slice none 0 0] _ rfl (KR.row _) Tryd.underlying38 rfl Tryd.sizeSeg) rfl (decGot_bad HQ.out (by decide) (E0.row (Nat.le_refl _) _))

set_option maxRecDepth 100000 in
set_option maxHeartbeats 2000000 in
theorem sdecode_short17 (a : Option Addr) (n c : Nat) (xs : List Int) (over : Int) (w : World) (hr : Ints .u8 w a n xs) (ho : Pl.Word over) (h : n < 8 ∨ 308 < n) :
    Calls Tryd.prog 40 #[.int .i64 17, .slice a n c, .int .i64 over] w (DecGot 17 xs over w) := by
  have hl := hr.len
  have HQ := Lib.hid (show Pl.segQ 17 xs over = 5 by
    unfold Pl.segQ
    rw [if_neg (by rintro (h1 | h1); exact h1 (by decide); exact h1 ho), if_pos]
    rintro ⟨h2, _⟩
    rw [show Pl.segSize 17 = 8 from rfl] at h2
    omega)
  have KR := Blk.new w 38 #[.int .i64 0, .int .i64 0, .int .i64 0, .int .i64 0, .int .i64 0, .int .i64 0, .int .i64 0, .slice none 0 0]
  have E0 : Ext w (w.alloc (.cells #[.int .i64 0, .int .i64 0, .int .i64 0, .int .i64 0, .int .i64 0, .int .i64 0, .int .i64 0, .slice none 0 0] 38)) := (Ext.refl w).alloc _
  have s0 := sto KR ⟨0, 0, 0, 0, 0, 0, 0⟩ none 0 0
  have HO := Lib.hid ho
  clear ho
  rcases h with h | h
  · have h' : (n : Int) < 8 := by omega
    clear h
    go_enter Tryd.func40, Tryd.ntmps40
    go_wp2_with fail
    refine (known_any _ _).mono ?_
    rintro e w' ⟨rfl, rfl⟩
    go_wp2_with fail
    refine (sword_yes over _ HO.out).mono ?_
    rintro e w' ⟨rfl, rfl⟩
    go_wp2_with fail
    refine (head_17 _).mono ?_
    rintro e w' ⟨rfl, rfl⟩
    go_wp2_with ((apply store_by rfl _ _ _ rfl _ rfl); (focus (with_reducible assumption)); (focus rfl))
    refine bodyPost_ret (results_cell2 Tryd.results40 _ _ w.heap.size 38 #[.int .i64 0, .int .i64 0, .int .i64 0, .int .i64 0, .int .i64 0, .int .i64 0, .int .i64 0, .slice none 0 0] _ rfl (KR.row _) Tryd.underlying38 rfl Tryd.sizeSeg) rfl (decGot_bad HQ.out (by decide) (E0.row (Nat.le_refl _) _))
  · have h' : (308 : Int) < (n : Int) := by omega
    have h'' : ¬ (n : Int) < 8 := by omega
    clear h
    go_enter Tryd.func40, Tryd.ntmps40
    go_wp2_with fail
    refine (known_any _ _).mono ?_
    rintro e w' ⟨rfl, rfl⟩
    go_wp2_with fail
    refine (sword_yes over _ HO.out).mono ?_
    rintro e w' ⟨rfl, rfl⟩
    go_wp2_with fail
    refine (head_17 _).mono ?_
    rintro e w' ⟨rfl, rfl⟩
    go_wp2_with ((apply store_by rfl _ _ _ rfl _ rfl); (focus (with_reducible assumption)); (focus rfl))
    refine bodyPost_ret (results_cell2 Tryd.results40 _ _ w.heap.size 38 #[.int .i64 0, .int .i64 0, .int .i64 0, .int .i64 0, .int .i64 0, .int .i64 0, .int .i64 0, .slice none 0 0] _ rfl (KR.row _) Tryd.underlying38 rfl Tryd.sizeSeg) rfl (decGot_bad HQ.out (by decide) (E0.row (Nat.le_refl _) _))
end Go.Proofs.YtbjogkpepfgegaaDoor
namespace Go.Proofs.YtbjogkpepfgegaaDoor
open Go.RowKit
end Go.Proofs.YtbjogkpepfgegaaDoor
namespace Go.Proofs.YtbjogkpepfgegaaDoor
open Go.RowKit
set_option maxRecDepth 100000 in
set_option maxHeartbeats 1000000 in
theorem bclone_any (a : Option Addr) (n c : Nat) (bs : List Pl.Back) (w : World) (hb : Backs w a n bs) (hn : n ≤ 8) :
    Calls Tryd.prog 21 #[.slice a n c] w fun e w' => ∃ v, e = .returned v ∧ OwnB w' w.heap.size v bs ∧ Ext w w' := by
  cases a with
  | none =>
    have h0 : n = 0 := by
      rcases hb.2 with h | ⟨_, _, h, _⟩
      · exact h
      · cases h
    subst h0
    obtain rfl : bs = [] := List.length_eq_zero_iff.1 hb.1
    have heq : ∀ W : World, (binOp BinOp.eql 24 (.slice none 0 c) (.slice none 0 0)).run Tryd.prog W = .ok (.bool true) W := fun W => by kernel_rfl
    clear hb
    go_enter Tryd.func21, Tryd.ntmps21
    go_wp2_with fail
    go_returns
    exact ⟨_, rfl, OwnB.nil _ _, Ext.refl _⟩
  | some p =>
    have HB := Lib.hid hb
    have heq : ∀ W : World, (binOp BinOp.eql 24 (.slice (some p) n c) (.slice none 0 0)).run Tryd.prog W = .ok (.bool false) W := fun W => by kernel_rfl
    clear hb
    go_enter Tryd.func21, Tryd.ntmps21
    go_wp2_with (at_builtin; refine Halt.out ?_)
    refine Halt.mk ?_
    have hE : Ext w (w.alloc (.cells #[] 65)) := (Ext.refl w).alloc _
    have hown : OwnB (w.alloc (.cells #[] 65)) w.heap.size (.slice (some ⟨w.heap.size, 0, none⟩) 0 0) [] :=
      ⟨rfl, .inr ⟨w.heap.size, 0, #[], rfl, Nat.le_refl _, heap_alloc_new w _, Nat.le_refl _, by unfold maxLen; omega, rfl, rfl⟩⟩
    refine appB rfl _ _ rfl w.heap.size _ [] rfl hown (some p) n c bs rfl (HB.out.ext hE) (by simp; omega) hE.size ?_
    intro v W ho _ hb2
    have hE2 : Ext w W := Below.trans hE hb2
    go_wp2
    go_returns
    exact ⟨v, rfl, by simpa using ho, hE2⟩
/-- A gate at which nothing has gone on: what is asked of it here. -/
structure Gate0 (w : World) (gG : Nat) (n : Nat) : Prop where
  now : w.cell? ⟨gG, 25, none⟩ = some (.int .i64 0)
  tab : ∃ gT gP gB gF gN, w.cell? ⟨gG, 23, none⟩ = some (.pointer (some ⟨gT, 0, none⟩)) ∧ Tab0 w gT gP gB gF gN n
theorem Tab0.ext {w w' : World} {gT gP gB gF gN n : Nat} (h : Tab0 w gT gP gB gF gN n) (k : Ext w w') : Tab0 w' gT gP gB gF gN n :=
  ⟨h.ptr.ext k, h.prt.ext k, (Below.block k gF (Array.getElem?_eq_some_iff.1 h.flows).1).trans h.flows, (Below.block k gN (Array.getElem?_eq_some_iff.1 h.nears).1).trans h.nears⟩
theorem Tab0.set {w : World} {gT gP gB gF gN n g : Nat} (h : Tab0 w gT gP gB gF gN n) (i : Nat) (u : Value) (h1 : gT ≠ g) (h2 : gP ≠ g) (h3 : gB ≠ g) (h4 : gF ≠ g) (h5 : gN ≠ g) : Tab0 (w.setCell ⟨g, i, none⟩ u) gT gP gB gF gN n :=
  ⟨h.ptr.far h1 u, ⟨h.prt.ptr.far h2 u, h.prt.row.far h3 u, h.prt.ne, h.prt.n0, h.prt.n1⟩, (Below.heap_setCell w _ u gF h4).trans h.flows, (Below.heap_setCell w _ u gN h5).trans h.nears⟩
set_option maxRecDepth 100000 in
set_option maxHeartbeats 2000000 in
theorem gnew_no (c : Cfg) (a : Option Addr) (n m : Nat) (bs : List Pl.Back) (i q : Int) (w : World) (hb : Backs w a n bs) (hnm : n ≤ m) (hp : Pl.PF bs i q) (he : c.err q ≠ 0) :
    Calls Tryd.prog 6 #[c.v (.slice a n m)] w fun e w' => e = .returned (.tuple #[.pointer none, errv (c.err q)]) ∧ Ext w w' := by
  have KC := Blk.new w 26 (c.cells (.slice a n m))
  have E0 := (Ext.refl w).alloc (.cells (c.cells (.slice a n m)) 26)
  have HB := Lib.hid hb
  have HP := Lib.hid hp
  have HE := Lib.hid he
  clear hb hp he
  have ld := KC.cfg
  go_enter Tryd.func6, Tryd.ntmps6
  go_wp2_with ((apply load_by rfl _ _ rfl _ rfl); (focus (with_reducible assumption)))
  refine (gcheck_any c a n m bs i q _ (HB.out.ext E0) hnm HP.out).mono ?_
  rintro e W1 ⟨rfl, q1⟩
  have E1 := E0.trans q1
  rw [erv_ne HE.out]
  unfold errv
  clear ld KC E0 q1
  go_wp2_with fail
  go_returns
  exact ⟨rfl, E1⟩
set_option maxRecDepth 100000 in
set_option maxHeartbeats 2000000 in
theorem gnew_ok (c : Cfg) (a : Option Addr) (n m : Nat) (bs : List Pl.Back) (i q : Int) (w : World) (hb : Backs w a n bs) (hnm : n ≤ m) (hp : Pl.PF bs i q) (he : c.err q = 0) :
    Calls Tryd.prog 6 #[c.v (.slice a n m)] w fun e w' => ∃ gG, e = .returned (.tuple #[.pointer (some ⟨gG, 0, none⟩), .nilIface]) ∧ Gate0 w' gG c.blocks.toNat ∧ Ext w w' := by
  have KC := Blk.new w 26 (c.cells (.slice a n m))
  have E0 := (Ext.refl w).alloc (.cells (c.cells (.slice a n m)) 26)
  have HB := Lib.hid hb
  have HP := Lib.hid hp
  have HE := Lib.hid he
  have hgood : c.numB = true ∧ q = 0 := by
    unfold Cfg.err at he
    split at he
    · split at he
      · split at he
        · split at he
          · split at he
            · rename_i h1 h2
              exact ⟨h1, h2⟩
            · rename_i h; exact absurd he h
          · cases he
        · rename_i h; exact absurd he h
      · cases he
    · cases he
  obtain ⟨hnum, hq⟩ := hgood
  obtain ⟨_, _, _, hb1, hb2⟩ := Cfg.numB_yes hnum
  have hn8 : n ≤ 8 := by
    have := (hp.ok hq).1
    rw [hb.1] at this
    exact this
  clear hb hp he hnum hq
  have ld := KC.cfg
  have hmm := @run_makeMap Tryd.prog
  go_enter Tryd.func6, Tryd.ntmps6
  go_wp2_with ((apply load_by rfl _ _ rfl _ rfl); (focus (with_reducible assumption)))
  refine (gcheck_any c a n m bs i q _ (HB.out.ext E0) hnm HP.out).mono ?_
  rintro e W1 ⟨rfl, q1⟩
  have E1 := E0.trans q1
  have K1 := KC.ext q1
  rw [HE.out, erv_zero]
  obtain ⟨nb, hnb⟩ : ∃ nb : Nat, c.blocks = (nb : Int) := ⟨c.blocks.toNat, by omega⟩
  have c20 := K1.cfgNums.2.2.2.2.1
  have HNB := Lib.hid (show c.blocks.toNat = nb by omega)
  rw [hnb] at c20 hb1 hb2
  clear ld KC E0 q1
  go_wp2_with fail
  refine (bnew_ok nb W1 (by omega) (by omega)).mono ?_
  rintro e W2 ⟨gT, gP, gB, gF, gN, rfl, T2, q2, l1, l2, l3, l4, l5⟩
  have E2 := E1.trans q2
  have K2 := K1.ext q2
  have c22 := K2.cfgNums.2.2.2.2.2
  have hgc : w.heap.size < W1.heap.size := K1.lt
  clear c20 q2
  go_wp2_with fail
  refine (bclone_any a n m bs W2 (HB.out.ext E2) hn8).mono ?_
  rintro e W3 ⟨v3, rfl, o3, q3⟩
  have E3 := E2.trans q3
  have K3 := K2.ext q3
  have T3 := T2.ext q3
  have f22 := K3.free 22
  have c22 := K3.cells 22
  obtain ⟨a3, n3, m3, rfl, _, _⟩ := o3.read
  have K4 := K3.put 22 (.slice a3 n3 m3)
  have T4 := T3.set (g := w.heap.size) 22 (.slice a3 n3 m3) (by omega) (by omega) (by omega) (by omega) (by omega)
  have E4 : Ext w (W3.setCell ⟨w.heap.size, 22, none⟩ (.slice a3 n3 m3)) := Ext.set E3 (p := ⟨w.heap.size, 22, none⟩) (Nat.le_refl _) _
  clear E3 K3 T3 o3 K2 T2 E2 q3
  go_upto_region 8 with (fail)
  refine at_worldE (fun W => Ext w W ∧ Blk W w.heap.size 26 (c.cells (.slice a3 n3 m3)) ∧ Tab0 W gT gP gB gF gN nb) ⟨E4, K4, T4⟩ ?_
  clear E4 K4 T4 f22 c22
  rintro W4 ⟨E4, K4, T4⟩
  have ld : (Instr.loadAt 26 (.pointer (some ⟨w.heap.size, 0, none⟩))).run Tryd.prog W4 = .ok (.agg #[.int .i64 c.vip.x0, .int .i64 c.vip.x1, .int .i64 c.vip.x2, .int .i64 c.vip.x3, .int .i64 c.vip.x4, .int .i64 c.vip.x5, .int .i64 c.vip.x6, .int .i64 c.vip.x7, .int .i64 c.door, .int .i64 c.pre.x0, .int .i64 c.pre.x1, .int .i64 c.pre.x2, .int .i64 c.pre.x3, .int .i64 c.pre.x4, .int .i64 c.pre.x5, .int .i64 c.pre.x6, .int .i64 c.pre.x7, .int .i64 c.len, .int .i64 c.near, .int .i64 c.seed, .int .i64 c.blocks, .bool c.inj, .slice a3 n3 m3]) W4 := K4.cfg
  have HE4 := Lib.hid E4
  have HT4 := Lib.hid T4
  clear E4 K4 T4
  go_wp2_with ((apply load_by rfl _ _ rfl _ rfl); (focus (with_reducible assumption)))
  go_returns
  have KG := Blk.at (n := W4.heap.size + 1) (W4.alloc (.map #[] 0)) 68 #[.int .i64 c.vip.x0, .int .i64 c.vip.x1, .int .i64 c.vip.x2, .int .i64 c.vip.x3, .int .i64 c.vip.x4, .int .i64 c.vip.x5, .int .i64 c.vip.x6, .int .i64 c.vip.x7, .int .i64 c.door, .int .i64 c.pre.x0, .int .i64 c.pre.x1, .int .i64 c.pre.x2, .int .i64 c.pre.x3, .int .i64 c.pre.x4, .int .i64 c.pre.x5, .int .i64 c.pre.x6, .int .i64 c.pre.x7, .int .i64 c.len, .int .i64 c.near, .int .i64 c.seed, .int .i64 (nb : Int), .bool c.inj, .slice a3 n3 m3, .pointer (some ⟨gT, 0, none⟩), .map (some W4.heap.size), .int .i64 0] (by simp)
  rw [HNB.out]
  refine ⟨W4.heap.size + 1, rfl, ⟨KG.cells 25, gT, gP, gB, gF, gN, KG.cells 23, ?_⟩, ?_⟩
  · exact HT4.out.ext (((Ext.refl W4).alloc _).alloc _)
  · exact (HE4.out.alloc _).alloc _
end Go.Proofs.YtbjogkpepfgegaaDoor
