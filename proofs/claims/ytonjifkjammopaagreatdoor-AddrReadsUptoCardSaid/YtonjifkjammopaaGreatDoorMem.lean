/- Words on memory for the walks of this seat: what lies as it lay, blocks that are known whole, a world named by what is known of it. Conditions: as each lemma states them. -/
import Derived.Test.YtonjifkjammopaaGreatDoorOwn
import Derived.Laws.Rows
import Derived.Deep.Draws
import Derived.Deep.MidRow
namespace Go.Proofs.YtonjifkjammopaaGreatDoor
open Go.RowKit

/-- All that was there is as it was. -/
def Ext (w w' : World) : Prop := Below w.heap.size w w'
theorem Ext.refl (w : World) : Ext w w := Below.refl _ _
theorem Ext.trans {a b c : World} (h : Ext a b) (k : Ext b c) : Ext a c := Below.trans h (Below.mono k h.size)
theorem Ext.low {B : Nat} {a b c : World} (h : Below B a b) (hB : B ≤ b.heap.size) (k : Ext b c) : Below B a c := h.trans (Below.mono k hB)
theorem Ext.size {a b : World} (h : Ext a b) : a.heap.size ≤ b.heap.size := Below.size h

theorem Ext.alloc {a b : World} (h : Ext a b) (o : Obj) : Ext a (b.alloc o) := Below.alloc h h.size o
theorem Ext.drew {a b : World} (h : Ext a b) : Ext a b.drew := Below.drew h
theorem Ext.drewN {a b : World} (h : Ext a b) (n : Nat) : Ext a (b.drewN n) := ⟨h.os, h.tape, h.output, h.size, h.block⟩
theorem Ext.set {a b : World} (h : Ext a b) {p : Addr} (hp : a.heap.size ≤ p.block) (u : Value) : Ext a (b.setCell p u) := Below.setCell h hp u
/-- Block g is just these cells. -/
def Blk (w : World) (g : Nat) (t : TypeId) (cs : Array Value) : Prop := w.heap[g]? = some (.cells cs t)
section
variable {w w' : World} {g : Nat} {t : TypeId} {cs : Array Value}
theorem Blk.lt (h : Blk w g t cs) : g < w.heap.size := (Array.getElem?_eq_some_iff.1 h).1
theorem Blk.cells (h : Blk w g t cs) : ∀ i, w.cell? ⟨g, i, none⟩ = cs[i]? := fun i => cell_of_row w g i cs t (0, 0) h
theorem Blk.free (h : Blk w g t cs) : ∀ i, w.frozen? ⟨g, i, none⟩ = false := fun i => frozen_of_row w g i cs t h
theorem Blk.new (w : World) (t : TypeId) (cs : Array Value) : Blk (w.alloc (.cells cs t)) w.heap.size t cs := heap_alloc_new w _
theorem Blk.at {n : Nat} (w : World) (t : TypeId) (cs : Array Value) (h : w.heap.size = n) : Blk (w.alloc (.cells cs t)) n t cs := by subst h; exact Blk.new w t cs
theorem Blk.ints (h : Blk w g t cs) {k : IntKind} {off n : Nat} {xs : List Int} (hn : xs.length = n) (hc : ∀ i, i < n → cs[off + i]? = some (.int k (xs.getD i 0))) : Ints k w (some ⟨g, off, none⟩) n xs :=
  ⟨hn, .inr ⟨g, off, rfl, fun i hi => (h.cells (off + i)).trans (hc i hi)⟩⟩
theorem Blk.alloc (h : Blk w g t cs) (o : Obj) : Blk (w.alloc o) g t cs := (Below.heap_alloc w o g h.lt).trans h
theorem Blk.drew (h : Blk w g t cs) : Blk w.drew g t cs := h
theorem Blk.drewN (h : Blk w g t cs) (n : Nat) : Blk (w.drewN n) g t cs := h
theorem Blk.ext (h : Blk w g t cs) (k : Ext w w') : Blk w' g t cs := (Below.block k g h.lt).trans h
theorem Blk.below {B : Nat} (h : Blk w g t cs) (k : Below B w w') (hg : g < B) : Blk w' g t cs := (Below.block k g hg).trans h
theorem Blk.put (h : Blk w g t cs) (i : Nat) (u : Value) : Blk (w.setCell ⟨g, i, none⟩ u) g t (cs.setIfInBounds i u) := by
  unfold Blk at *
  simp [World.setCell, Array.getElem?_modify, h]
theorem Blk.far (h : Blk w g t cs) {p : Addr} (hp : g ≠ p.block) (u : Value) : Blk (w.setCell p u) g t cs := (Below.heap_setCell w p u g hp).trans h
end
theorem Ints.ext {k : IntKind} {w w' : World} {a : Option Addr} {n : Nat} {xs : List Int} (h : Ints k w a n xs) (hb : Ext w w') : Ints k w' a n xs := h.below hb
theorem Own.ext {w w' : World} {B : Nat} {v : Value} {xs : List Int} (h : Own w B v xs) (hb : Ext w w') : Own w' B v xs := h.below hb h.lt'

/-- At a load whose run is known. -/
theorem load_by {P : Program} {ops : Array Oper} {rest : List Oper} {o : Oper} {a : Act} {w : World} {Q : Exit → Act → World → Prop} (hw : Region.wanted o (yielded ops a.tmps) = true) (ty : TypeId) (x : Operand) (ho : o.op = .load ty x)
    (p : Addr) (hx : a.eval x = .pointer (some p)) (v : Value) (h : (Instr.loadAt ty (.pointer (some p))).run P w = .ok v w)
    (k : wpList P ops Q rest (a.put o.dst v) w) : wpList P ops Q (o :: rest) a w := by
  refine BigFrame.wpList_want hw fun K hK => ?_
  unfold Oper.wp execOp
  simp only [ho, hx, Sem.run_bind, h, Result.andThen_ok, Sem.run_pure]
  exact hK _ _ k

/-- A world is named by what is known of it. -/
theorem at_world {P : Program} {f : FuncId} {args : Array Value} {W : World} {Q : Ending → World → Prop} (X : World → Prop) (h : X W) (k : ∀ W', X W' → Calls P f args W' Q) : Calls P f args W Q := k W h
end Go.Proofs.YtonjifkjammopaaGreatDoor
