/- bind.Use, where it refuses. Conditions: as each lemma states them. -/
import Derived.Test.YtefdhlmljocnkaaDoorTab
namespace Go.Proofs.YtefdhlmljocnkaaDoor
open Go.RowKit
set_option maxRecDepth 100000 in
theorem btick_any (n : Int) (w : World) : Calls Tryd.prog 51 #[.int .i64 n] w fun e w' => e = .returned (.bool (decide (0 ≤ n) && decide (n ≤ 1099511627776))) ∧ w' = w := by
  by_cases h0 : 0 ≤ n
  · have e0 : decide (n ≥ 0) = true := by simpa using h0
    go_enter Tryd.func51, Tryd.ntmps51
    go_wp2
    go_ret
    simp [h0]
  · have e0 : decide (n ≥ 0) = false := by simpa using h0
    go_enter Tryd.func51, Tryd.ntmps51
    go_wp2
    go_ret
    simp
set_option maxRecDepth 100000 in
set_option maxHeartbeats 2000000 in
theorem tuse_none (gT gP gB gF gN : Nat) (s : PS) (l : List Te) (cF cN : Nat) (near now : Int) (w : World) (h : Tab w gT gP gB gF gN s l cF cN) (hn : nearIn near l = none) :
    Calls Tryd.prog 20 #[.pointer (some ⟨gT, 0, none⟩), .int .i64 near, .int .i64 now] w fun e w' => e = .returned (errv 4) ∧ Ext w w' := by
  have m1 := h.nears.lookup keyI_finds 103 53 Tryd.underlying103 zeroBd.v (zero_bind w) near true
  unfold nearIn at hn
  rw [hn] at m1
  dsimp only [keyI] at m1
  have c2 : w.cell? ⟨gT, 2, none⟩ = some (.map (some gN)) := h.ptr.cells 2
  have K := Blk.new w 53 #[.int .i64 0, .int .i64 0, .int .i64 0, .int .i64 0, .int .i64 0, .int .i64 0, .int .i64 0, .int .i64 0, .int .i64 0, .int .i64 0, .int .i64 0, .int .i64 0, .int .i64 0, .int .i64 0, .int .i64 0, .int .i64 0, .int .i64 0, .int .i64 0, .int .i64 0, .int .i64 0, .int .i64 0, .int .i64 0, .int .i64 0]
  have st := stoBd K zeroBd
  have HE := Lib.hid (((Ext.refl w).alloc (.cells #[.int .i64 0, .int .i64 0, .int .i64 0, .int .i64 0, .int .i64 0, .int .i64 0, .int .i64 0, .int .i64 0, .int .i64 0, .int .i64 0, .int .i64 0, .int .i64 0, .int .i64 0, .int .i64 0, .int .i64 0, .int .i64 0, .int .i64 0, .int .i64 0, .int .i64 0, .int .i64 0, .int .i64 0, .int .i64 0, .int .i64 0] 53)).row (k := w.heap.size) (Nat.le_refl _) zeroBd.cells)
  clear h hn K
  go_enter Tryd.func20, Tryd.ntmps20
  go_wp2_with ((apply store_by rfl _ _ _ rfl _ rfl); (focus (with_reducible assumption)); (focus rfl))
  go_returns
  exact ⟨rfl, HE.out⟩
set_option maxRecDepth 100000 in
set_option maxHeartbeats 2000000 in
theorem tuse_tick (gT gP gB gF gN : Nat) (s : PS) (l : List Te) (cF cN : Nat) (near now : Int) (w : World) (h : Tab w gT gP gB gF gN s l cF cN) (i : Nat) (b : Bd) (hn : nearIn near l = some (i, b.v)) (hb : (decide (0 ≤ now) && decide (now ≤ 1099511627776)) = false) :
    Calls Tryd.prog 20 #[.pointer (some ⟨gT, 0, none⟩), .int .i64 near, .int .i64 now] w fun e w' => e = .returned (errv 1) ∧ Ext w w' := by
  have m1 := h.nears.lookup keyI_finds 103 53 Tryd.underlying103 zeroBd.v (zero_bind w) near true
  unfold nearIn at hn
  rw [hn] at m1
  dsimp only [keyI] at m1
  have c2 : w.cell? ⟨gT, 2, none⟩ = some (.map (some gN)) := h.ptr.cells 2
  have K := Blk.new w 53 #[.int .i64 0, .int .i64 0, .int .i64 0, .int .i64 0, .int .i64 0, .int .i64 0, .int .i64 0, .int .i64 0, .int .i64 0, .int .i64 0, .int .i64 0, .int .i64 0, .int .i64 0, .int .i64 0, .int .i64 0, .int .i64 0, .int .i64 0, .int .i64 0, .int .i64 0, .int .i64 0, .int .i64 0, .int .i64 0, .int .i64 0]
  have st := stoBd K b
  have KB := K.row b.cells
  have HE := Lib.hid (((Ext.refl w).alloc (.cells #[.int .i64 0, .int .i64 0, .int .i64 0, .int .i64 0, .int .i64 0, .int .i64 0, .int .i64 0, .int .i64 0, .int .i64 0, .int .i64 0, .int .i64 0, .int .i64 0, .int .i64 0, .int .i64 0, .int .i64 0, .int .i64 0, .int .i64 0, .int .i64 0, .int .i64 0, .int .i64 0, .int .i64 0, .int .i64 0, .int .i64 0] 53)).row (k := w.heap.size) (Nat.le_refl _) b.cells)
  clear h hn K
  go_enter Tryd.func20, Tryd.ntmps20
  go_wp2_with ((apply store_by rfl _ _ _ rfl _ rfl); (focus (with_reducible assumption)); (focus rfl))
  refine (btick_any now _).mono ?_
  rintro e w' ⟨rfl, rfl⟩
  rw [hb]
  go_wp2_with fail
  go_returns
  exact ⟨rfl, HE.out⟩
set_option maxRecDepth 100000 in
set_option maxHeartbeats 2000000 in
theorem tuse_past (gT gP gB gF gN : Nat) (s : PS) (l : List Te) (cF cN : Nat) (near now : Int) (w : World) (h : Tab w gT gP gB gF gN s l cF cN) (i : Nat) (b : Bd) (hn : nearIn near l = some (i, b.v)) (hb : (decide (0 ≤ now) && decide (now ≤ 1099511627776)) = true) (hl : now < b.last) :
    Calls Tryd.prog 20 #[.pointer (some ⟨gT, 0, none⟩), .int .i64 near, .int .i64 now] w fun e w' => e = .returned (errv 9) ∧ Ext w w' := by
  have m1 := h.nears.lookup keyI_finds 103 53 Tryd.underlying103 zeroBd.v (zero_bind w) near true
  unfold nearIn at hn
  rw [hn] at m1
  dsimp only [keyI] at m1
  have c2 : w.cell? ⟨gT, 2, none⟩ = some (.map (some gN)) := h.ptr.cells 2
  have K := Blk.new w 53 #[.int .i64 0, .int .i64 0, .int .i64 0, .int .i64 0, .int .i64 0, .int .i64 0, .int .i64 0, .int .i64 0, .int .i64 0, .int .i64 0, .int .i64 0, .int .i64 0, .int .i64 0, .int .i64 0, .int .i64 0, .int .i64 0, .int .i64 0, .int .i64 0, .int .i64 0, .int .i64 0, .int .i64 0, .int .i64 0, .int .i64 0]
  have st := stoBd K b
  have KB := K.row b.cells
  have HE := Lib.hid (((Ext.refl w).alloc (.cells #[.int .i64 0, .int .i64 0, .int .i64 0, .int .i64 0, .int .i64 0, .int .i64 0, .int .i64 0, .int .i64 0, .int .i64 0, .int .i64 0, .int .i64 0, .int .i64 0, .int .i64 0, .int .i64 0, .int .i64 0, .int .i64 0, .int .i64 0, .int .i64 0, .int .i64 0, .int .i64 0, .int .i64 0, .int .i64 0, .int .i64 0] 53)).row (k := w.heap.size) (Nat.le_refl _) b.cells)
  have c22 := KB.cells 22
  change _ = some (Value.int .i64 b.last) at c22
  have hl' : decide (now < b.last) = true := by simpa using hl
  clear h hn K
  go_enter Tryd.func20, Tryd.ntmps20
  go_wp2_with ((apply store_by rfl _ _ _ rfl _ rfl); (focus (with_reducible assumption)); (focus rfl))
  refine (btick_any now _).mono ?_
  rintro e w' ⟨rfl, rfl⟩
  rw [hb]
  go_wp2_with fail
  go_returns
  exact ⟨rfl, HE.out⟩
end Go.Proofs.YtefdhlmljocnkaaDoor
