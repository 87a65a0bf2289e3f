/- The contracts of package port, on: New, Free, Blocks. Conditions: as each theorem states them. -/
import Derived.Test.YtefdhlmljocnkaaDoorPort2
import Derived.Test.YtefdhlmljocnkaaDoorRowI
namespace Go.Proofs.YtefdhlmljocnkaaDoor
open Go.RowKit
/-- Ports of which none is taken. -/
def PS.zero (n : Nat) : PS := ⟨n, fun _ => six0, fun _ => false⟩
theorem PS.zero_many (n k : Nat) : (PS.zero n).many k = 0 := Pl.cnt_none fun _ _ => rfl
theorem Tryd.infoBlock : (Tryd.prog.info? 144).map (fun i => (i.zero, i.size, i.bytes)) = some (some (.agg #[.int .i64 0, .int .i64 0, .int .i64 0, .int .i64 0, .int .i64 0, .int .i64 0, .int .i64 0, .int .i64 0, .bool false, .bool false, .bool false, .bool false, .bool false, .bool false, .bool false, .bool false, .int .i64 0]), 17, 80) := by kernel_rfl
theorem Tryd.sizeBlock : (Tryd.prog.info? 144).map (·.size) = some 17 := by kernel_rfl
theorem z17_at (i : Nat) : (#[.int .i64 0, .int .i64 0, .int .i64 0, .int .i64 0, .int .i64 0, .int .i64 0, .int .i64 0, .int .i64 0, .bool false, .bool false, .bool false, .bool false, .bool false, .bool false, .bool false, .bool false, .int .i64 0] : Array Value)[i % 17]! = (PS.zero (i / 17 + 1)).cell i := by
  have h : i % 17 < 17 := Nat.mod_lt _ (by omega)
  have e : i = 17 * (i / 17) + i % 17 := by omega
  obtain ⟨q, hq⟩ : ∃ q, i / 17 = q := ⟨_, rfl⟩
  obtain ⟨r, hr⟩ : ∃ r, i % 17 = r := ⟨_, rfl⟩
  unfold PS.cell
  rw [hq, hr, PS.zero_many]
  rw [hr] at h
  have h : r = 0 ∨ r = 1 ∨ r = 2 ∨ r = 3 ∨ r = 4 ∨ r = 5 ∨ r = 6 ∨ r = 7 ∨ r = 8 ∨ r = 9 ∨ r = 10 ∨ r = 11 ∨ r = 12 ∨ r = 13 ∨ r = 14 ∨ r = 15 ∨ r = 16 := by omega
  rcases h with rfl | rfl | rfl | rfl | rfl | rfl | rfl | rfl | rfl | rfl | rfl | rfl | rfl | rfl | rfl | rfl | rfl <;> rfl
theorem PS.zero_cells (n : Nat) : madeCells #[.int .i64 0, .int .i64 0, .int .i64 0, .int .i64 0, .int .i64 0, .int .i64 0, .int .i64 0, .int .i64 0, .bool false, .bool false, .bool false, .bool false, .bool false, .bool false, .bool false, .bool false, .int .i64 0] (n * 17) = (PS.zero n).cells := by
  refine Array.ext_getElem? fun i => ?_
  by_cases hi : i < 17 * n
  · rw [PS.cells_at _ (show i < 17 * (PS.zero n).n from hi)]
    unfold madeCells
    rw [Array.getElem?_map, Array.getElem?_range]
    rw [if_pos (by omega)]
    show some ((#[.int .i64 0, .int .i64 0, .int .i64 0, .int .i64 0, .int .i64 0, .int .i64 0, .int .i64 0, .int .i64 0, .bool false, .bool false, .bool false, .bool false, .bool false, .bool false, .bool false, .bool false, .int .i64 0] : Array Value)[i % 17]!) = _
    rw [z17_at]
    unfold PS.cell
    rw [PS.zero_many, PS.zero_many]
    rfl
  · rw [PS.cells_out _ (show ¬ i < 17 * (PS.zero n).n from hi), Array.getElem?_eq_none (by rw [size_madeCells]; omega)]
theorem make_blocks (n : Nat) (hn : n ≤ 16) (w : World) : (Instr.makeSlice 132 (.int .i64 (n : Int)) (.int .i64 (n : Int))).run Tryd.prog w = .ok (.slice (some ⟨w.heap.size, 0, none⟩) n n) (w.alloc (.cells (PS.zero n).cells 144)) := by
  obtain ⟨i, hi, he⟩ := Option.map_eq_some_iff.1 Tryd.infoBlock
  obtain ⟨h0, h1, h2⟩ : i.zero = some (.agg #[.int .i64 0, .int .i64 0, .int .i64 0, .int .i64 0, .int .i64 0, .int .i64 0, .int .i64 0, .int .i64 0, .bool false, .bool false, .bool false, .bool false, .bool false, .bool false, .bool false, .bool false, .int .i64 0]) ∧ i.size = 17 ∧ i.bytes = 80 := by
    simpa using he
  have := run_makeSlice (P := Tryd.prog) w 132 144 i (.agg #[.int .i64 0, .int .i64 0, .int .i64 0, .int .i64 0, .int .i64 0, .int .i64 0, .int .i64 0, .int .i64 0, .bool false, .bool false, .bool false, .bool false, .bool false, .bool false, .bool false, .bool false, .int .i64 0]) Tryd.underlying132 hi h0 .i64 .i64 (n : Int) (n : Int) (by omega) (by omega) (by rw [h1, Int.toNat_natCast]; omega) (by rw [h2]; omega) (by omega)
  have hc : (Value.agg #[.int .i64 0, .int .i64 0, .int .i64 0, .int .i64 0, .int .i64 0, .int .i64 0, .int .i64 0, .int .i64 0, .bool false, .bool false, .bool false, .bool false, .bool false, .bool false, .bool false, .bool false, .int .i64 0]).cells = #[.int .i64 0, .int .i64 0, .int .i64 0, .int .i64 0, .int .i64 0, .int .i64 0, .int .i64 0, .int .i64 0, .bool false, .bool false, .bool false, .bool false, .bool false, .bool false, .bool false, .bool false, .int .i64 0] := rfl
  rw [h1, Int.toNat_natCast, hc, PS.zero_cells] at this
  exact this
set_option maxRecDepth 100000 in
set_option maxHeartbeats 1000000 in
theorem new_ok (n : Nat) (w : World) (h0 : 1 ≤ n) (h1 : n ≤ 16) :
    Calls Tryd.prog 47 #[.int .i64 (n : Int)] w fun e w' => ∃ gP gB, e = .returned (.tuple #[.pointer (some ⟨gP, 0, none⟩), .nilIface]) ∧ Prt w' gP gB (PS.zero n) ∧ Ext w w' ∧ w.heap.size ≤ gP ∧ w.heap.size ≤ gB := by
  have hmk := make_blocks n h1
  have d1 : decide ((n : Int) < 1) = false := decide_eq_false (by omega)
  have d2 : decide ((16 : Int) < (n : Int)) = false := decide_eq_false (by omega)
  go_enter Tryd.func47, Tryd.ntmps47
  go_wp2
  go_returns
  refine ⟨w.heap.size + 1, w.heap.size, ?_, ⟨?_, ?_, by omega, h0, h1⟩, ?_, by omega, by omega⟩
  · simp
  · exact Blk.at _ _ _ (by simp)
  · exact (Blk.new w _ _).alloc _
  · exact ((Ext.refl w).alloc _).alloc _
set_option maxRecDepth 100000 in
theorem new_no (n : Int) (w : World) (h : n < 1 ∨ 16 < n) :
    Calls Tryd.prog 47 #[.int .i64 n] w fun e w' => e = .returned (.tuple #[.pointer none, errv 1]) ∧ w' = w := by
  unfold errv
  by_cases h0 : n < 1
  · have d1 : decide (n < 1) = true := decide_eq_true h0
    clear h
    go_enter Tryd.func47, Tryd.ntmps47
    go_wp2
    go_returns
    exact ⟨rfl, rfl⟩
  · have d1 : decide (n < 1) = false := decide_eq_false h0
    have d2 : decide (16 < n) = true := decide_eq_true (by omega)
    clear h
    go_enter Tryd.func47, Tryd.ntmps47
    go_wp2
    go_returns
    exact ⟨rfl, rfl⟩
/-- How many ports are free. -/
def PS.used (s : PS) (k : Nat) : Nat := Pl.cnt s.tk 0 (8 * k)
def PS.free (s : PS) : Int := 8 * (s.n : Int) - (s.used s.n : Int)
theorem PS.used_step (s : PS) (k : Nat) : s.used (k + 1) = s.used k + s.many k := by
  unfold PS.used PS.many
  rw [show 8 * (k + 1) = 8 * k + 8 by omega, Pl.cnt_add, Nat.zero_add]
/-- A block's cells. -/
def PS.blk (s : PS) (k : Nat) : Array Value := Array.ofFn (n := 17) fun j => s.cell (17 * k + j)
theorem PS.blk_at (s : PS) (k : Nat) {j : Nat} (h : j < 17) : (s.blk k)[j]? = some (s.cell (17 * k + j)) := by
  unfold PS.blk
  rw [Array.getElem?_ofFn, dif_pos h]
theorem PS.cell_one (s : PS) (i : Nat) : (s.cell i).oneCell' = true := by
  unfold PS.cell
  split
  · rfl
  · split <;> rfl
theorem PS.blk_one (s : PS) (k : Nat) : (s.blk k).all (·.oneCell') = true := by
  rw [Array.all_eq_true_iff_forall_mem]
  intro v hv
  obtain ⟨i, hi⟩ := Array.mem_iff_getElem?.1 hv
  have hlt : i < 17 := by
    have := (Array.getElem?_eq_some_iff.1 hi).1
    simpa [PS.blk] using this
  rw [s.blk_at k hlt] at hi
  rw [← Option.some.inj hi]
  exact s.cell_one _
theorem Prt.blk {w : World} {gP gB : Nat} {s : PS} (h : Prt w gP gB s) {k : Nat} (hk : k < s.n) : (Instr.loadAt 144 (.pointer (some ⟨gB, k * 17, none⟩))).run Tryd.prog w = .ok (.agg (s.blk k)) w := by
  have := run_loadAt_mid (P := Tryd.prog) w gB (k * 17) 144 (s.blk k).toList _ (fun j v hv => by
    rw [Array.getElem?_toList] at hv
    have hj : j < 17 := by
      have := (Array.getElem?_eq_some_iff.1 hv).1
      simpa [PS.blk] using this
    rw [s.blk_at k hj] at hv
    rw [h.row.cells, show k * 17 + j = 17 * k + j by omega, s.cells_at (by omega)]
    exact hv) Tryd.underlying144 rfl (Tryd.sizeBlock.trans (by simp [PS.blk]))
  rw [Array.toArray_toList] at this
  exact this
end Go.Proofs.YtefdhlmljocnkaaDoor
