/- A table of binds in memory; bind.Near. Conditions: as each lemma states them. -/
import Derived.Test.YtbjogkpepfgegaaGreatDoorK04
import Derived.Test.YtbjogkpepfgegaaGreatDoorK22
import Derived.Test.YtbjogkpepfgegaaGreatDoorK02
namespace Go.Proofs.YtbjogkpepfgegaaGreatDoor
open Go.RowKit
/-- A bind. -/
structure Bd where
  flow : Flow
  near : Int
  back : Int
  far : Int
  last : Int
def Bd.cells (b : Bd) : Array Value := #[.int .i64 b.flow.kind, .int .i64 b.flow.client.x0, .int .i64 b.flow.client.x1, .int .i64 b.flow.client.x2, .int .i64 b.flow.client.x3, .int .i64 b.flow.client.x4, .int .i64 b.flow.client.x5, .int .i64 b.flow.client.x6, .int .i64 b.flow.client.x7, .int .i64 b.flow.port, .int .i64 b.flow.dst.x0, .int .i64 b.flow.dst.x1, .int .i64 b.flow.dst.x2, .int .i64 b.flow.dst.x3, .int .i64 b.flow.dst.x4, .int .i64 b.flow.dst.x5, .int .i64 b.flow.dst.x6, .int .i64 b.flow.dst.x7, .int .i64 b.flow.door, .int .i64 b.near, .int .i64 b.back, .int .i64 b.far, .int .i64 b.last]
abbrev Bd.v (b : Bd) : Value := .agg b.cells
theorem Tryz.sizeBd : (Tryz.prog.info? 52).map (·.size) = some 23 := by kernel_rfl
theorem Bd.one (b : Bd) : b.cells.all (·.oneCell') = true := by simp [Bd.cells, Value.oneCell']
/-- An entry of the table: a bind and when each map got it. -/
structure Te where
  b : Bd
  sF : Nat
  sN : Nat
def Te.inF (x : Te) : Ent Flow := ⟨x.b.flow, .int .i64 x.b.near, x.sF⟩
def Te.inN (x : Te) : Ent Int := ⟨x.b.near, x.b.v, x.sN⟩
/-- A table of binds lies in memory. -/
structure Tab (w : World) (gT gP gB gF gN : Nat) (s : PS) (l : List Te) (cF cN : Nat) : Prop where
  ptr : Blk w gT 117 #[.pointer (some ⟨gP, 0, none⟩), .map (some gF), .map (some gN)]
  prt : Prt w gP gB s
  flows : MapIs keyF w gF (l.map Te.inF) cF
  nears : MapIs keyI w gN (l.map Te.inN) cN
  apart : [gT, gP, gB, gF, gN].Nodup
/-- Who has a port, at which place. -/
def nearIn (k : Int) (l : List Te) : Option (Nat × Value) := keyI.look k (l.map Te.inN) 0
def zeroBd : Bd := ⟨⟨0, ⟨0, 0, 0, 0, 0, 0, 0, 0⟩, 0, ⟨0, 0, 0, 0, 0, 0, 0, 0⟩, 0⟩, 0, 0, 0, 0⟩
theorem zero_bind (w : World) : (zeroValue 52).run Tryz.prog w = .ok zeroBd.v w := by kernel_rfl
theorem stoBd {w : World} {R : Nat} (k : Blk w R 52 #[.int .i64 0, .int .i64 0, .int .i64 0, .int .i64 0, .int .i64 0, .int .i64 0, .int .i64 0, .int .i64 0, .int .i64 0, .int .i64 0, .int .i64 0, .int .i64 0, .int .i64 0, .int .i64 0, .int .i64 0, .int .i64 0, .int .i64 0, .int .i64 0, .int .i64 0, .int .i64 0, .int .i64 0, .int .i64 0, .int .i64 0]) (b : Bd) :
    (Instr.storeAt 52 (.pointer (some ⟨R, 0, none⟩)) (.agg b.cells)).run Tryz.prog w = .ok () (w.setRow R b.cells) := k.store rfl Tryz.sizeBd b.one
theorem loaBd {w : World} {R : Nat} {b : Bd} (k : Blk w R 52 b.cells) :
    (Instr.loadAt 52 (.pointer (some ⟨R, 0, none⟩))).run Tryz.prog w = .ok (.agg b.cells) w := by
  have := run_loadAt_mid (P := Tryz.prog) w R 0 52 b.cells.toList _ (fun j v hv => by
    rw [Array.getElem?_toList] at hv
    rw [k.cells, Nat.zero_add]; exact hv) Tryz.underlying52 rfl Tryz.sizeBd
  simpa using this
set_option maxRecDepth 100000 in
set_option maxHeartbeats 2000000 in
theorem tnear_none (gT gP gB gF gN : Nat) (s : PS) (l : List Te) (cF cN : Nat) (kind near : Int) (w : World) (h : Tab w gT gP gB gF gN s l cF cN) (hn : nearIn near l = none) :
    Calls Tryz.prog 42 #[.pointer (some ⟨gT, 0, none⟩), .int .i64 kind, .int .i64 near] w fun e w' => e = .returned (.tuple #[zeroBd.v, errv 4]) ∧ Ext w w' := by
  have hm := fun w' (E : Ext w w') => (h.nears.ext E).lookup keyI_finds 115 52 Tryz.underlying115 zeroBd.v (zero_bind w') near true
  have E1 : Ext w (w.alloc (.cells #[.int .i64 0, .int .i64 0, .int .i64 0, .int .i64 0, .int .i64 0, .int .i64 0, .int .i64 0, .int .i64 0, .int .i64 0, .int .i64 0, .int .i64 0, .int .i64 0, .int .i64 0, .int .i64 0, .int .i64 0, .int .i64 0, .int .i64 0, .int .i64 0, .int .i64 0, .int .i64 0, .int .i64 0, .int .i64 0, .int .i64 0] 52)) := (Ext.refl w).alloc _
  have m1 := hm _ E1
  unfold nearIn at hn
  rw [hn] at m1
  dsimp only [keyI] at m1
  have c2 : (w.alloc (.cells #[.int .i64 0, .int .i64 0, .int .i64 0, .int .i64 0, .int .i64 0, .int .i64 0, .int .i64 0, .int .i64 0, .int .i64 0, .int .i64 0, .int .i64 0, .int .i64 0, .int .i64 0, .int .i64 0, .int .i64 0, .int .i64 0, .int .i64 0, .int .i64 0, .int .i64 0, .int .i64 0, .int .i64 0, .int .i64 0, .int .i64 0] 52)).cell? ⟨gT, 2, none⟩ = some (.map (some gN)) := (h.ptr.alloc _).cells 2
  have E2 := E1.alloc (.cells #[.int .i64 0, .int .i64 0, .int .i64 0, .int .i64 0, .int .i64 0, .int .i64 0, .int .i64 0, .int .i64 0, .int .i64 0, .int .i64 0, .int .i64 0, .int .i64 0, .int .i64 0, .int .i64 0, .int .i64 0, .int .i64 0, .int .i64 0, .int .i64 0, .int .i64 0, .int .i64 0, .int .i64 0, .int .i64 0, .int .i64 0] 52)
  have K1 := (Blk.new w 52 #[.int .i64 0, .int .i64 0, .int .i64 0, .int .i64 0, .int .i64 0, .int .i64 0, .int .i64 0, .int .i64 0, .int .i64 0, .int .i64 0, .int .i64 0, .int .i64 0, .int .i64 0, .int .i64 0, .int .i64 0, .int .i64 0, .int .i64 0, .int .i64 0, .int .i64 0, .int .i64 0, .int .i64 0, .int .i64 0, .int .i64 0]).alloc (.cells #[.int .i64 0, .int .i64 0, .int .i64 0, .int .i64 0, .int .i64 0, .int .i64 0, .int .i64 0, .int .i64 0, .int .i64 0, .int .i64 0, .int .i64 0, .int .i64 0, .int .i64 0, .int .i64 0, .int .i64 0, .int .i64 0, .int .i64 0, .int .i64 0, .int .i64 0, .int .i64 0, .int .i64 0, .int .i64 0, .int .i64 0] 52)
  have K2 := Blk.at (n := w.heap.size + 1) (w.alloc (.cells #[.int .i64 0, .int .i64 0, .int .i64 0, .int .i64 0, .int .i64 0, .int .i64 0, .int .i64 0, .int .i64 0, .int .i64 0, .int .i64 0, .int .i64 0, .int .i64 0, .int .i64 0, .int .i64 0, .int .i64 0, .int .i64 0, .int .i64 0, .int .i64 0, .int .i64 0, .int .i64 0, .int .i64 0, .int .i64 0, .int .i64 0] 52)) 52 #[.int .i64 0, .int .i64 0, .int .i64 0, .int .i64 0, .int .i64 0, .int .i64 0, .int .i64 0, .int .i64 0, .int .i64 0, .int .i64 0, .int .i64 0, .int .i64 0, .int .i64 0, .int .i64 0, .int .i64 0, .int .i64 0, .int .i64 0, .int .i64 0, .int .i64 0, .int .i64 0, .int .i64 0, .int .i64 0, .int .i64 0] (by simp)
  have st := stoBd K2 zeroBd
  have E3 := E2.row (k := w.heap.size + 1) (Nat.le_succ _) zeroBd.cells
  have K3 := K1.farRow (k := w.heap.size + 1) (by omega) zeroBd.cells
  have st2 : (Instr.storeAt 52 (.pointer (some ⟨w.heap.size, 0, none⟩)) (.agg #[.int .i64 0, .int .i64 0, .int .i64 0, .int .i64 0, .int .i64 0, .int .i64 0, .int .i64 0, .int .i64 0, .int .i64 0, .int .i64 0, .int .i64 0, .int .i64 0, .int .i64 0, .int .i64 0, .int .i64 0, .int .i64 0, .int .i64 0, .int .i64 0, .int .i64 0, .int .i64 0, .int .i64 0, .int .i64 0, .int .i64 0])).run Tryz.prog _ = .ok () _ := stoBd K3 zeroBd
  have KF := K3.row zeroBd.cells
  have E4 := E3.row (k := w.heap.size) (Nat.le_refl _) zeroBd.cells
  have HK := Lib.hid KF
  have HE := Lib.hid E4
  clear h hm hn E1 E2 E3 K1 K2 K3 KF E4
  go_enter Tryz.func42, Tryz.ntmps42
  go_wp2_with ((apply store_by rfl _ _ _ rfl _ rfl); (focus (with_reducible assumption)); (focus rfl))
  refine bodyPost_ret (results_cell2 Tryz.results42 _ _ w.heap.size 52 zeroBd.cells _ rfl HK.out Tryz.underlying52 rfl Tryz.sizeBd) rfl ⟨rfl, HE.out⟩
set_option maxRecDepth 100000 in
set_option maxHeartbeats 2000000 in
theorem tnear_some (gT gP gB gF gN : Nat) (s : PS) (l : List Te) (cF cN : Nat) (kind near : Int) (w : World) (h : Tab w gT gP gB gF gN s l cF cN) (i : Nat) (b : Bd) (hn : nearIn near l = some (i, b.v)) :
    Calls Tryz.prog 42 #[.pointer (some ⟨gT, 0, none⟩), .int .i64 kind, .int .i64 near] w fun e w' => e = .returned (if b.flow.kind = kind then .tuple #[b.v, .nilIface] else .tuple #[zeroBd.v, errv 4]) ∧ Ext w w' := by
  have hm := fun w' (E : Ext w w') => (h.nears.ext E).lookup keyI_finds 115 52 Tryz.underlying115 zeroBd.v (zero_bind w') near true
  have E1 : Ext w (w.alloc (.cells #[.int .i64 0, .int .i64 0, .int .i64 0, .int .i64 0, .int .i64 0, .int .i64 0, .int .i64 0, .int .i64 0, .int .i64 0, .int .i64 0, .int .i64 0, .int .i64 0, .int .i64 0, .int .i64 0, .int .i64 0, .int .i64 0, .int .i64 0, .int .i64 0, .int .i64 0, .int .i64 0, .int .i64 0, .int .i64 0, .int .i64 0] 52)) := (Ext.refl w).alloc _
  have m1 := hm _ E1
  unfold nearIn at hn
  rw [hn] at m1
  dsimp only [keyI] at m1
  have c2 : (w.alloc (.cells #[.int .i64 0, .int .i64 0, .int .i64 0, .int .i64 0, .int .i64 0, .int .i64 0, .int .i64 0, .int .i64 0, .int .i64 0, .int .i64 0, .int .i64 0, .int .i64 0, .int .i64 0, .int .i64 0, .int .i64 0, .int .i64 0, .int .i64 0, .int .i64 0, .int .i64 0, .int .i64 0, .int .i64 0, .int .i64 0, .int .i64 0] 52)).cell? ⟨gT, 2, none⟩ = some (.map (some gN)) := (h.ptr.alloc _).cells 2
  have E2 := E1.alloc (.cells #[.int .i64 0, .int .i64 0, .int .i64 0, .int .i64 0, .int .i64 0, .int .i64 0, .int .i64 0, .int .i64 0, .int .i64 0, .int .i64 0, .int .i64 0, .int .i64 0, .int .i64 0, .int .i64 0, .int .i64 0, .int .i64 0, .int .i64 0, .int .i64 0, .int .i64 0, .int .i64 0, .int .i64 0, .int .i64 0, .int .i64 0] 52)
  have K1 := (Blk.new w 52 #[.int .i64 0, .int .i64 0, .int .i64 0, .int .i64 0, .int .i64 0, .int .i64 0, .int .i64 0, .int .i64 0, .int .i64 0, .int .i64 0, .int .i64 0, .int .i64 0, .int .i64 0, .int .i64 0, .int .i64 0, .int .i64 0, .int .i64 0, .int .i64 0, .int .i64 0, .int .i64 0, .int .i64 0, .int .i64 0, .int .i64 0]).alloc (.cells #[.int .i64 0, .int .i64 0, .int .i64 0, .int .i64 0, .int .i64 0, .int .i64 0, .int .i64 0, .int .i64 0, .int .i64 0, .int .i64 0, .int .i64 0, .int .i64 0, .int .i64 0, .int .i64 0, .int .i64 0, .int .i64 0, .int .i64 0, .int .i64 0, .int .i64 0, .int .i64 0, .int .i64 0, .int .i64 0, .int .i64 0] 52)
  have K2 := Blk.at (n := w.heap.size + 1) (w.alloc (.cells #[.int .i64 0, .int .i64 0, .int .i64 0, .int .i64 0, .int .i64 0, .int .i64 0, .int .i64 0, .int .i64 0, .int .i64 0, .int .i64 0, .int .i64 0, .int .i64 0, .int .i64 0, .int .i64 0, .int .i64 0, .int .i64 0, .int .i64 0, .int .i64 0, .int .i64 0, .int .i64 0, .int .i64 0, .int .i64 0, .int .i64 0] 52)) 52 #[.int .i64 0, .int .i64 0, .int .i64 0, .int .i64 0, .int .i64 0, .int .i64 0, .int .i64 0, .int .i64 0, .int .i64 0, .int .i64 0, .int .i64 0, .int .i64 0, .int .i64 0, .int .i64 0, .int .i64 0, .int .i64 0, .int .i64 0, .int .i64 0, .int .i64 0, .int .i64 0, .int .i64 0, .int .i64 0, .int .i64 0] (by simp)
  have st := stoBd K2 b
  have E3 := E2.row (k := w.heap.size + 1) (Nat.le_succ _) b.cells
  have KB := K2.row b.cells
  have K3 := K1.farRow (k := w.heap.size + 1) (by omega) b.cells
  have ck := KB.cells 0
  change _ = some (Value.int .i64 b.flow.kind) at ck
  have ld := loaBd KB
  by_cases e : b.flow.kind = kind
  · have st2 := stoBd K3 b
    have KF := K3.row b.cells
    have E4 := E3.row (k := w.heap.size) (Nat.le_refl _) b.cells
    have HK := Lib.hid KF
    have HE := Lib.hid E4
    have hk : (b.flow.kind != kind) = false := by simp [e]
    rw [if_pos e]
    clear h hm hn E1 E2 E3 K1 K2 K3 KF E4 KB
    go_enter Tryz.func42, Tryz.ntmps42
    go_wp2_with (first | ((apply store_by rfl _ _ _ rfl _ rfl); (focus (with_reducible assumption)); (focus rfl)) | ((apply load_by rfl _ _ rfl _ rfl); (focus (with_reducible assumption))))
    refine bodyPost_ret (results_cell2 Tryz.results42 _ _ w.heap.size 52 b.cells _ rfl HK.out Tryz.underlying52 rfl Tryz.sizeBd) rfl ⟨rfl, HE.out⟩
  · have st2 : (Instr.storeAt 52 (.pointer (some ⟨w.heap.size, 0, none⟩)) (.agg #[.int .i64 0, .int .i64 0, .int .i64 0, .int .i64 0, .int .i64 0, .int .i64 0, .int .i64 0, .int .i64 0, .int .i64 0, .int .i64 0, .int .i64 0, .int .i64 0, .int .i64 0, .int .i64 0, .int .i64 0, .int .i64 0, .int .i64 0, .int .i64 0, .int .i64 0, .int .i64 0, .int .i64 0, .int .i64 0, .int .i64 0])).run Tryz.prog _ = .ok () _ := stoBd K3 zeroBd
    have KF := K3.row zeroBd.cells
    have E4 := E3.row (k := w.heap.size) (Nat.le_refl _) zeroBd.cells
    have HK := Lib.hid KF
    have HE := Lib.hid E4
    have hk : (b.flow.kind != kind) = true := by simp [e]
    rw [if_neg e]
    clear h hm hn E1 E2 E3 K1 K2 K3 KF E4 KB ld
    go_enter Tryz.func42, Tryz.ntmps42
    go_wp2_with ((apply store_by rfl _ _ _ rfl _ rfl); (focus (with_reducible assumption)); (focus rfl))
    refine bodyPost_ret (results_cell2 Tryz.results42 _ _ w.heap.size 52 zeroBd.cells _ rfl HK.out Tryz.underlying52 rfl Tryz.sizeBd) rfl ⟨rfl, HE.out⟩
end Go.Proofs.YtbjogkpepfgegaaGreatDoor
