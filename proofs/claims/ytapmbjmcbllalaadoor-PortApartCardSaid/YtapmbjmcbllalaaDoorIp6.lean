/- Packets of sixes: their cells, their fault, the contract of ip6.Check. Conditions: as each theorem states them. -/
import Derived.Test.YtapmbjmcbllalaaDoorSixS
import Derived.Test.YtapmbjmcbllalaaDoorErv
namespace Go.Proofs.YtapmbjmcbllalaaDoor
open Go.RowKit
/-- A packet's addresses and numbers. -/
structure P6 where
  src : Six
  dst : Six
  hop : Int
  kind : Int
def P6.cells (p : P6) (b : Value) : Array Value := #[.int .i64 p.src.x0, .int .i64 p.src.x1, .int .i64 p.src.x2, .int .i64 p.src.x3, .int .i64 p.src.x4, .int .i64 p.src.x5, .int .i64 p.src.x6, .int .i64 p.src.x7, .int .i64 p.dst.x0, .int .i64 p.dst.x1, .int .i64 p.dst.x2, .int .i64 p.dst.x3, .int .i64 p.dst.x4, .int .i64 p.dst.x5, .int .i64 p.dst.x6, .int .i64 p.dst.x7, .int .i64 p.hop, .int .i64 p.kind, b]
abbrev P6.v (p : P6) (b : Value) : Value := .agg (p.cells b)
def b8 (n : Int) : Bool := decide (0 ≤ n) && decide (n ≤ 255)
theorem b8_yes {n : Int} (h : b8 n = true) : 0 ≤ n ∧ n ≤ 255 := by unfold b8 at h; simpa using h
theorem b8_no {n : Int} (h : b8 n = false) : n < 0 ∨ (0 ≤ n ∧ 255 < n) := by unfold b8 at h; simp at h; omega
def P6.good (p : P6) : Bool := okS p.src && okS p.dst && b8 p.hop && b8 p.kind
/-- What is wrong with a packet of n bytes. -/
def P6.fault (p : P6) (n : Nat) : Int := if p.good = true then (if n ≤ 320 then 0 else 3) else 1
section
variable {w : World} {g : Nat} {t : TypeId} {p : P6} {b : Value}
theorem Blk.p6src (h : Blk w g t (p.cells b)) : (Instr.loadAt 31 (.pointer (some ⟨g, 0, none⟩))).run Tryd.prog w = .ok (.agg p.src.cells) w :=
  h.six 0 p.src fun j hj => by
    have h : j = 0 ∨ j = 1 ∨ j = 2 ∨ j = 3 ∨ j = 4 ∨ j = 5 ∨ j = 6 ∨ j = 7 := by omega
    rcases h with rfl | rfl | rfl | rfl | rfl | rfl | rfl | rfl <;> rfl
theorem Blk.p6dst (h : Blk w g t (p.cells b)) : (Instr.loadAt 31 (.pointer (some ⟨g, 8, none⟩))).run Tryd.prog w = .ok (.agg p.dst.cells) w :=
  h.six 8 p.dst fun j hj => by
    have h : j = 0 ∨ j = 1 ∨ j = 2 ∨ j = 3 ∨ j = 4 ∨ j = 5 ∨ j = 6 ∨ j = 7 := by omega
    rcases h with rfl | rfl | rfl | rfl | rfl | rfl | rfl | rfl <;> rfl
theorem Blk.p6nums (h : Blk w g t (p.cells b)) : w.cell? ⟨g, 16, none⟩ = some (.int .i64 p.hop) ∧ w.cell? ⟨g, 17, none⟩ = some (.int .i64 p.kind) ∧ w.cell? ⟨g, 18, none⟩ = some b := ⟨h.cells 16, h.cells 17, h.cells 18⟩
end
theorem P6.fault_bad {p : P6} {n : Nat} (h : p.good = false) : p.fault n = 1 := by unfold P6.fault; rw [h]; rfl
theorem P6.fault_full {p : P6} {n : Nat} (h : p.good = true) (hn : ¬ n ≤ 320) : p.fault n = 3 := by unfold P6.fault; rw [h, if_pos rfl, if_neg hn]
theorem P6.fault_none {p : P6} {n : Nat} (h : p.good = true) (hn : n ≤ 320) : p.fault n = 0 := by unfold P6.fault; rw [h, if_pos rfl, if_pos hn]
theorem P6.fault_zero {p : P6} {n : Nat} (h : p.fault n = 0) : p.good = true ∧ n ≤ 320 := by
  unfold P6.fault at h
  by_cases hg : p.good = true
  · rw [if_pos hg] at h
    by_cases hn : n ≤ 320
    · exact ⟨hg, hn⟩
    · rw [if_neg hn] at h; omega
  · rw [if_neg hg] at h; omega
theorem P6.good_all {p : P6} (h : p.good = true) : okS p.src = true ∧ okS p.dst = true ∧ (0 ≤ p.hop ∧ p.hop ≤ 255) ∧ (0 ≤ p.kind ∧ p.kind ≤ 255) := by
  unfold P6.good at h
  simp only [Bool.and_eq_true] at h
  exact ⟨h.1.1.1, h.1.1.2, b8_yes h.1.2, b8_yes h.2⟩

end Go.Proofs.YtapmbjmcbllalaaDoor
