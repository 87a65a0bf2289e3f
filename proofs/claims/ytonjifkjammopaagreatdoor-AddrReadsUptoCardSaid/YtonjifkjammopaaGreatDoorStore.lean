/- Stores of whole structs, and results that lie in memory. Conditions: as each lemma states them. -/
import Derived.Test.YtonjifkjammopaaGreatDoorMem
import Derived.Laws.Tables
import Derived.Laws.CopyOwn
namespace Go.Proofs.YtonjifkjammopaaGreatDoor
open Go.RowKit

/-- At a store whose run is known. -/
theorem store_by {P : Program} {ops : Array Oper} {rest : List Oper} {o : Oper} {a : Act} {w : World} {Q : Exit → Act → World → Prop} (hw : Region.wanted o (yielded ops a.tmps) = true) (ty : TypeId) (x y : Operand) (ho : o.op = .store ty x y)
    (p : Addr) (hx : a.eval x = .pointer (some p)) {v : Value} {w' : World} (h : (Instr.storeAt ty (.pointer (some p)) v).run P w = .ok () w') (hy : a.eval y = v)
    (k : wpList P ops Q rest (a.put o.dst undef) w') : wpList P ops Q (o :: rest) a w := by
  refine BigFrame.wpList_want hw fun K hK => ?_
  unfold Oper.wp execOp
  simp only [ho, hx, hy, Sem.run_bind, h, Result.andThen_ok, Sem.run_pure]
  exact hK _ _ k

section
variable {w w' : World} {g : Nat} {t : TypeId} {old cs : Array Value}
theorem Blk.row (h : Blk w g t old) (cs : Array Value) : Blk (w.setRow g cs) g t cs := setRow_heap w g old cs t (0, 0) h
theorem Blk.farRow {k : Nat} (h : Blk w g t old) (hk : g ≠ k) (cs : Array Value) : Blk (w.setRow k cs) g t old := (setRow_other w k g cs hk).trans h
theorem Ext.row {a b : World} (h : Ext a b) {k : Nat} (hk : a.heap.size ≤ k) (cs : Array Value) : Ext a (b.setRow k cs) := below_setRow h hk cs
theorem only_row {a b : World} {g k : Nat} (h : a.grownBy b (some g)) (hk : a.heap.size ≤ k) (cs : Array Value) : a.grownBy (b.setRow k cs) (some g) :=
  ⟨h.os, h.tape, h.output, by simpa using h.size, fun i hi hne => (setRow_other b k i cs (by omega)).trans (h.block i hi hne)⟩
theorem Blk.store (h : Blk w g t old) {ty : TypeId} (hs : old.size = cs.size) (hi : (Tryz.prog.info? ty).map (·.size) = some cs.size) (h1 : cs.all (·.oneCell') = true) :
    (Instr.storeAt ty (.pointer (some ⟨g, 0, none⟩)) (.agg cs)).run Tryz.prog w = .ok () (w.setRow g cs) := by
  simp only [Instr.storeAt, Instr.sureAddr, Sem.run_bind, Sem.run_pure, Result.andThen_ok, run_storeVar_row w g t ty old cs h hi hs h1]
end
/-- A world is named by what is known of it, at a statement. -/
theorem at_worldE {P : Program} {c : Code} {Q : Exit → Act → World → Prop} {a : Act} {W : World} (X : World → Prop) (h : X W) (k : ∀ W', X W' → c.wp P Q a W') : c.wp P Q a W := k W h
/-- An address's eight noughts. -/
abbrev zc6 : Array Value := #[.int .i64 0, .int .i64 0, .int .i64 0, .int .i64 0, .int .i64 0, .int .i64 0, .int .i64 0, .int .i64 0]
theorem cell_off {w : World} {p q : Addr} (h : ¬ p.block = q.block) (u : Value) : (w.setCell q u).cell? p = w.cell? p := World.cell?_of_block (Below.heap_setCell w q u p.block h)
/-- Two results, the first in memory. -/
theorem results_cell2 {fn : Func} {p q : Tmp} {ty : TypeId} (h : fn.results = #[.cell p ty, .tmp q]) (tmps : Array Value) (w : World) (g : Nat) (t : TypeId) (cs : Array Value) (d : TypeDesc)
    (hp : tmps.getD p undef = .pointer (some ⟨g, 0, none⟩)) (hg : Blk w g t cs)
    (hu : Tryz.prog.underlying ty = some d) (hd : d.isRow = true) (hi : (Tryz.prog.info? ty).map (·.size) = some cs.size) :
    (results fn tmps).run Tryz.prog w = .ok (.tuple #[.agg cs, tmps.getD q undef]) w := by
  have hp' : tmps[p]?.getD undef = .pointer (some ⟨g, 0, none⟩) := by simpa using hp
  simp [results, h, hp', asAddr, run_loadVar_row w g t ty cs (0, 0) d hg hu (by cases d <;> simp_all [TypeDesc.isRow]) hi]
end Go.Proofs.YtonjifkjammopaaGreatDoor
