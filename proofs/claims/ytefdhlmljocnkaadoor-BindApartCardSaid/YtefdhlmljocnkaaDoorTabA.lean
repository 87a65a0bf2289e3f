/- bind.All up to its sorting: the binds of a map, in whatever order. Conditions: as each lemma states them. -/
import Derived.Test.YtefdhlmljocnkaaDoorMapR
import Derived.Test.YtefdhlmljocnkaaDoorBdRow
namespace Go.Proofs.YtefdhlmljocnkaaDoor
open Go.RowKit
/-- A step of a range over a table's ports. -/
theorem at_nextT {w : World} {r gN since cN : Nat} {seen : List Nat} {l : List Te} {ops : Array Oper} {rest : List Oper} {o : Oper} {a : Act} {Q : Exit → Act → World → Prop} (hg : o.guard = none) (it : Operand) (hop : o.op = Op.next it false) (hit : a.eval it = .pointer (some ⟨r, 0, none⟩))
    (h : MapIs keyI w gN (l.map Te.inN) cN) (hi : It w r gN since seen) (hrg : r ≠ gN) (hold : ∀ y ∈ l, y.sN < since) (hsc : since ≤ cN) (hn : (l.map Te.sN).Nodup)
    (hDone : (∀ y ∈ l, y.sN ∈ seen) → wpList Tryd.prog ops Q rest (a.put o.dst (.tuple #[.bool false])) w)
    (hMore : ∀ y w', y ∈ l → y.sN ∉ seen → It w' r gN since (seen ++ [y.sN]) → Kp [r] w w' → (Instr.entry (.pointer (some ⟨r, 0, none⟩))).run Tryd.prog w' = .ok (.tuple #[.int .i64 y.b.near, .agg y.b.cells]) w' → wpList Tryd.prog ops Q rest (a.put o.dst (.tuple #[.bool true, .int .i64 y.b.near, .agg y.b.cells])) w') :
    wpList Tryd.prog ops Q (o :: rest) a w := by
  refine at_nextmap hg it hop hit h hi hrg (fun x hx => by obtain ⟨y, hy, rfl⟩ := List.mem_map.1 hx; exact hold y hy) hsc (by rw [List.map_map]; exact hn) (fun hall => hDone fun y hy => hall y.inN (List.mem_map_of_mem hy)) ?_
  intro x w' hx hs hI hk hen
  obtain ⟨y, hy, rfl⟩ := List.mem_map.1 hx
  exact hMore y w' hy hs hI hk hen
/-- What sorted makes of binds that the call owns, of a table's binds. -/
def SortsTo (B : List Bd) : Prop := ∀ (v : Value) (xs : List Bd) (b : Nat) (w : World), xs.Perm B → KB.Own 53 w b v xs → Calls Tryd.prog 55 #[v] w fun e w' => e = .returned v ∧ KB.Own 53 w' b v B ∧ w.grownBy w' v.ownBlock
set_option maxRecDepth 100000 in
set_option maxHeartbeats 2000000 in
theorem tall_any (gT gP gB gF gN : Nat) (s : PS) (l : List Te) (cF cN : Nat) (B : List Bd) (w : World) (h : Tab w gT gP gB gF gN s l cF cN) (p : (l.map Te.b).Perm B) (hnd : (l.map Te.sN).Nodup) (hB : B.length ≤ 65536) (hS : SortsTo B) :
    Calls Tryd.prog 29 #[.pointer (some ⟨gT, 0, none⟩)] w fun e w' => ∃ v, e = .returned v ∧ KB.Own 53 w' w.heap.size v B ∧ Ext w w' := by
  have c2 : w.cell? ⟨gT, 2, none⟩ = some (.map (some gN)) := h.ptr.cells 2
  have HM := Lib.hid h.nears
  have hNl := h.nears.lt
  have hll : l.length ≤ 65536 := by have := p.length_eq; simp at this; omega
  have HP := Lib.hid (And.intro p (And.intro hnd hS))
  clear h p hnd hS
  go_enter Tryd.func29, Tryd.ntmps29
  go_wp2_with (first | (at_range; refine at_map rfl _ 103 53 rfl HM.out rfl Tryd.underlying103 ?_; intro W0 hI0 E0 hs0))
  have g0 := W0.heap.size
  go_frame
  go_loopw [3] (fun v wr => ∃ d : List Te, Vis l d ∧ It wr w.heap.size gN cN (d.map Te.sN) ∧ KB.Own 53 wr (w.heap.size + 1) v (d.map Te.b) ∧ Ext w wr ∧ w.heap.size + 1 ≤ wr.heap.size) (fun _ wr => l.length - itSeen wr w.heap.size)
  case atStart => exact ⟨[], ⟨fun _ h => (by cases h), List.nodup_nil⟩, hI0, Kin.Own.nil _ _, E0, by omega⟩
  case round =>
    clear hI0 E0 hs0
    obtain ⟨d, hV, hI, ho, hE, hs⟩ := hrel
    have hcount := hI.count
    have HV := Lib.hid (And.intro hV (And.intro ho hE))
    have MN := HM.out.ext hE
    have hl := hV.len
    have hC : l.length - itSeen wr w.heap.size = l.length - d.length := by rw [hcount]; simp
    clear hV ho hE
    have hold : ∀ y ∈ l, y.sN < cN := fun y hy => MN.old y.inN (List.mem_map_of_mem hy)
    go_wp2_with (first | ((apply load_by rfl _ _ rfl _ rfl); (focus (with_reducible assumption))) | ((apply store_by rfl _ _ _ rfl _ rfl); (focus (with_reducible assumption)); (focus rfl)) | (at_next; refine at_nextT rfl _ rfl rfl MN hI (by omega) hold (Nat.le_refl _) HP.out.2.1 (fun hall => ?_) (fun y w1 hy hns hI1 hk1 hen => ?_); rotate_left; obtain ⟨⟨f, near, back, far, last⟩, sF, sN⟩ := y; have K8 := Blk.new w1 53 #[.int .i64 0, .int .i64 0, .int .i64 0, .int .i64 0, .int .i64 0, .int .i64 0, .int .i64 0, .int .i64 0, .int .i64 0, .int .i64 0, .int .i64 0, .int .i64 0, .int .i64 0, .int .i64 0, .int .i64 0, .int .i64 0, .int .i64 0, .int .i64 0, .int .i64 0, .int .i64 0, .int .i64 0, .int .i64 0, .int .i64 0]; have st := stoBd K8 ⟨f, near, back, far, last⟩; have K9 := K8.row (Bd.cells ⟨f, near, back, far, last⟩); have ld : (Instr.loadAt 53 (.pointer (some ⟨w1.heap.size, 0, none⟩))).run Tryd.prog _ = .ok (.agg #[.int .i64 f.kind, .int .i64 f.client.x0, .int .i64 f.client.x1, .int .i64 f.client.x2, .int .i64 f.client.x3, .int .i64 f.client.x4, .int .i64 f.client.x5, .int .i64 f.client.x6, .int .i64 f.client.x7, .int .i64 f.port, .int .i64 f.dst.x0, .int .i64 f.dst.x1, .int .i64 f.dst.x2, .int .i64 f.dst.x3, .int .i64 f.dst.x4, .int .i64 f.dst.x5, .int .i64 f.dst.x6, .int .i64 f.dst.x7, .int .i64 f.door, .int .i64 near, .int .i64 back, .int .i64 far, .int .i64 last]) _ := loaBd K9; rotate_right) | (at_builtin; refine Halt.out ?_))
    · have hp : d.Perm l := HV.out.1.all HP.out.2.1 hall
      have hE := HV.out.2.2
      have ho := HV.out.2.1
      refine (HP.out.2.2 u3 (d.map Te.b) (w.heap.size + 1) wr ((hp.map _).trans HP.out.1) ho).mono ?_
      rintro e W9 ⟨rfl, o9, g9⟩
      have hE9 : Ext w W9 := Below.grown hE g9 (by omega) (fun k hk => by have := (ho.lt k hk).1; omega)
      clear hall hp hE ho g9 hI MN hcount hC
      go_wp2_with fail
      go_returns
      exact ⟨_, rfl, o9.mono (Nat.le_succ _), hE9⟩
    · refine Halt.mk ?_
      have ho := HV.out.2.1
      have hE := HV.out.2.2
      have hV := HV.out.1.add hy hns
      have hlen := hV.len
      have hne : ∀ k, u3.ownBlock = some k → w.heap.size + 1 ≤ k := fun k hk => (ho.lt k hk).1
      have o1 := ho.rowed hk1.grown1 (fun k hk he => by have := hne k hk; cases he; omega)
      have hE1 : Ext w w1 := Below.kp hE hk1 (by omega) (fun g hg => by simp at hg; omega)
      have hs1 := hk1.size
      have E3 : Ext w1 _ := (((Ext.refl w1).alloc (.cells #[.int .i64 0, .int .i64 0, .int .i64 0, .int .i64 0, .int .i64 0, .int .i64 0, .int .i64 0, .int .i64 0, .int .i64 0, .int .i64 0, .int .i64 0, .int .i64 0, .int .i64 0, .int .i64 0, .int .i64 0, .int .i64 0, .int .i64 0, .int .i64 0, .int .i64 0, .int .i64 0, .int .i64 0, .int .i64 0, .int .i64 0] 53)).row (k := w1.heap.size) (Nat.le_refl _) (Bd.cells ⟨f, near, back, far, last⟩)).alloc (.cells #[.int .i64 f.kind, .int .i64 f.client.x0, .int .i64 f.client.x1, .int .i64 f.client.x2, .int .i64 f.client.x3, .int .i64 f.client.x4, .int .i64 f.client.x5, .int .i64 f.client.x6, .int .i64 f.client.x7, .int .i64 f.port, .int .i64 f.dst.x0, .int .i64 f.dst.x1, .int .i64 f.dst.x2, .int .i64 f.dst.x3, .int .i64 f.dst.x4, .int .i64 f.dst.x5, .int .i64 f.dst.x6, .int .i64 f.dst.x7, .int .i64 f.door, .int .i64 near, .int .i64 back, .int .i64 far, .int .i64 last] 53)
      have o3 := o1.ext E3
      have i3 := hI1.ext E3
      have hs3 := E3.size
      have hE3 := hE1.trans E3
      clear ho o1 hI1 hE1 E3 hI MN hcount hen K8 K9 st ld hE
      refine appBL rfl _ _ rfl (w.heap.size + 1) u3 (d.map Te.b) rfl o3 _ _ _ [⟨f, near, back, far, last⟩] rfl (Blk.binds1 (b := ⟨f, near, back, far, last⟩) (Blk.at _ _ _ (by simp))) (by simp at hlen ⊢; omega) (by omega) ?_
      intro v9 W9 o9 g9 b9 l9
      have i9 := i3.grown g9 (fun he => by have := hne _ he.symm; omega)
      have hE9 : Ext w W9 := Below.trans hE3 (b9.mono (Nat.le_succ _))
      have hs9 := g9.size
      have hc9 := i9.count
      clear o3 i3 g9 b9 l9
      go_wp2_with fail
      go_roundw
      case rel => exact ⟨d ++ [⟨⟨f, near, back, far, last⟩, sF, sN⟩], hV, by simpa using i9, by simpa using o9, hE9, by omega⟩
      case measure => rw [hC, hc9]; simp at hlen ⊢; omega
end Go.Proofs.YtefdhlmljocnkaaDoor
