/- A step of a script, loaded and stored whole. Conditions: as each lemma states them. -/
import Derived.Test.YtapmbjmcbllalaaDoorOpenT
import Derived.Test.YtapmbjmcbllalaaDoorStore
import Derived.Test.YtapmbjmcbllalaaDoorFlow
namespace Go.Proofs.YtapmbjmcbllalaaDoor
open Go.RowKit
theorem Tryd.sizeStp : (Tryd.prog.info? 39).map (·.size) = some 31 := by kernel_rfl
theorem Kin.See.stp {w : World} {b off n : Nat} {xs : List Stp} (h : KT.See w (some ⟨b, off, none⟩) n xs) {i : Nat} {s : Stp} (hi : xs[i]? = some s) :
    (Instr.loadAt 39 (.pointer (some ⟨b, off + i * 31, none⟩))).run Tryd.prog w = .ok (.agg s.cells) w := by
  have hn : 0 < n := by
    have := (List.getElem?_eq_some_iff.1 hi).1
    rw [h.1] at this
    omega
  rcases h.2 with h0 | ⟨b', off', hb, hc⟩
  · omega
  · cases hb
    have := run_loadAt_mid (P := Tryd.prog) w b (off + i * 31) 39 s.cells.toList _ (fun j v hv => hc i s hi j v hv) Tryd.underlying39 rfl Tryd.sizeStp
    rw [Array.toArray_toList] at this
    exact this
section
variable {w : World} {g : Nat} {t : TypeId} {s : Stp}
theorem Blk.stpSet (h : Blk w g t #[.int .i64 0, .int .i64 0, .int .i64 0, .int .i64 0, .int .i64 0, .int .i64 0, .int .i64 0, .int .i64 0, .int .i64 0, .int .i64 0, .int .i64 0, .int .i64 0, .int .i64 0, .int .i64 0, .int .i64 0, .int .i64 0, .int .i64 0, .int .i64 0, .int .i64 0, .int .i64 0, .int .i64 0, .int .i64 0, .int .i64 0, .int .i64 0, .int .i64 0, .int .i64 0, .int .i64 0, .int .i64 0, .int .i64 0, .int .i64 0, .int .i64 0]) (s : Stp) : (Instr.storeAt 39 (.pointer (some ⟨g, 0, none⟩)) (.agg s.cells)).run Tryd.prog w = .ok () (w.setRow g s.cells) :=
  h.store (ty := 39) (cs := s.cells) rfl Tryd.sizeStp s.cells_one
theorem Blk.stpWho (h : Blk w g t s.cells) : (Instr.loadAt 31 (.pointer (some ⟨g, 1, none⟩))).run Tryd.prog w = .ok (.agg s.who.cells) w :=
  h.six 1 s.who fun j hj => by
    have h : j = 0 ∨ j = 1 ∨ j = 2 ∨ j = 3 ∨ j = 4 ∨ j = 5 ∨ j = 6 ∨ j = 7 := by omega
    rcases h with rfl | rfl | rfl | rfl | rfl | rfl | rfl | rfl <;> rfl
theorem Blk.stpFlow (h : Blk w g t s.cells) : (Instr.loadAt 37 (.pointer (some ⟨g, 9, none⟩))).run Tryd.prog w = .ok (.agg s.flow.cells) w := by
  have := run_loadAt_mid (P := Tryd.prog) w g 9 37 s.flow.cells.toList _ (fun j v hv => by
    rw [Array.getElem?_toList] at hv
    have hj : j < 19 := (Array.getElem?_eq_some_iff.1 hv).1
    rw [h.cells, ← hv]
    have h : j = 0 ∨ j = 1 ∨ j = 2 ∨ j = 3 ∨ j = 4 ∨ j = 5 ∨ j = 6 ∨ j = 7 ∨ j = 8 ∨ j = 9 ∨ j = 10 ∨ j = 11 ∨ j = 12 ∨ j = 13 ∨ j = 14 ∨ j = 15 ∨ j = 16 ∨ j = 17 ∨ j = 18 := by omega
    rcases h with rfl | rfl | rfl | rfl | rfl | rfl | rfl | rfl | rfl | rfl | rfl | rfl | rfl | rfl | rfl | rfl | rfl | rfl | rfl <;> rfl) Tryd.underlying37 rfl Tryd.sizeFlow
  rw [Array.toArray_toList] at this
  exact this
theorem Blk.stpNums (h : Blk w g t s.cells) : w.cell? ⟨g, 0, none⟩ = some (.int .i64 s.what) ∧ w.cell? ⟨g, 28, none⟩ = some (.int .i64 s.n) ∧ w.cell? ⟨g, 29, none⟩ = some (.int .i64 s.m) ∧ w.cell? ⟨g, 30, none⟩ = some (.int .i64 s.now) :=
  ⟨h.cells 0, h.cells 28, h.cells 29, h.cells 30⟩
end
end Go.Proofs.YtapmbjmcbllalaaDoor
