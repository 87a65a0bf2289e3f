/- Lemmas of this seat, bound together: TabU TabV TabL SegD RefG. Conditions: as each lemma states them. -/
import Derived.Test.YtbjogkpepfgegaaGreatDoorK24
import Derived.Test.YtbjogkpepfgegaaGreatDoorK25
import Derived.Test.YtbjogkpepfgegaaGreatDoorK21
import Derived.Test.YtbjogkpepfgegaaGreatDoorK04
import Derived.Test.YtbjogkpepfgegaaGreatDoorK05
import Derived.Deep.RegionLaw
import Derived.Deep.RegionHeld3
import Derived.Test.YtbjogkpepfgegaaGreatDoorK03
namespace Go.Proofs.YtbjogkpepfgegaaGreatDoor
open Go.RowKit
set_option maxRecDepth 100000 in
theorem btick_any (n : Int) (w : World) : Calls Tryz.prog 83 #[.int .i64 n] w fun e w' => e = .returned (.bool (decide (0 ≤ n) && decide (n ≤ 1099511627776))) ∧ w' = w := by
  by_cases h0 : 0 ≤ n
  · have e0 : decide (n ≥ 0) = true := by simpa using h0
    go_enter Tryz.func83, Tryz.ntmps83
    go_wp2
    go_ret
    simp [h0]
  · have e0 : decide (n ≥ 0) = false := by simpa using h0
    go_enter Tryz.func83, Tryz.ntmps83
    go_wp2
    go_ret
    simp
set_option maxRecDepth 100000 in
set_option maxHeartbeats 2000000 in
theorem tuse_none (gT gP gB gF gN : Nat) (s : PS) (l : List Te) (cF cN : Nat) (near now : Int) (w : World) (h : Tab w gT gP gB gF gN s l cF cN) (hn : nearIn near l = none) :
    Calls Tryz.prog 43 #[.pointer (some ⟨gT, 0, none⟩), .int .i64 near, .int .i64 now] w fun e w' => e = .returned (errv 4) ∧ Ext w w' := by
  have m1 := h.nears.lookup keyI_finds 115 52 Tryz.underlying115 zeroBd.v (zero_bind w) near true
  unfold nearIn at hn
  rw [hn] at m1
  dsimp only [keyI] at m1
  have c2 : w.cell? ⟨gT, 2, none⟩ = some (.map (some gN)) := h.ptr.cells 2
  have K := Blk.new w 52 #[.int .i64 0, .int .i64 0, .int .i64 0, .int .i64 0, .int .i64 0, .int .i64 0, .int .i64 0, .int .i64 0, .int .i64 0, .int .i64 0, .int .i64 0, .int .i64 0, .int .i64 0, .int .i64 0, .int .i64 0, .int .i64 0, .int .i64 0, .int .i64 0, .int .i64 0, .int .i64 0, .int .i64 0, .int .i64 0, .int .i64 0]
  have st := stoBd K zeroBd
  have HE := Lib.hid (((Ext.refl w).alloc (.cells #[.int .i64 0, .int .i64 0, .int .i64 0, .int .i64 0, .int .i64 0, .int .i64 0, .int .i64 0, .int .i64 0, .int .i64 0, .int .i64 0, .int .i64 0, .int .i64 0, .int .i64 0, .int .i64 0, .int .i64 0, .int .i64 0, .int .i64 0, .int .i64 0, .int .i64 0, .int .i64 0, .int .i64 0, .int .i64 0, .int .i64 0] 52)).row (k := w.heap.size) (Nat.le_refl _) zeroBd.cells)
  clear h hn K
  go_enter Tryz.func43, Tryz.ntmps43
  go_wp2_with ((apply store_by rfl _ _ _ rfl _ rfl); (focus (with_reducible assumption)); (focus rfl))
  go_returns
  exact ⟨rfl, HE.out⟩
set_option maxRecDepth 100000 in
set_option maxHeartbeats 2000000 in
theorem tuse_tick (gT gP gB gF gN : Nat) (s : PS) (l : List Te) (cF cN : Nat) (near now : Int) (w : World) (h : Tab w gT gP gB gF gN s l cF cN) (i : Nat) (b : Bd) (hn : nearIn near l = some (i, b.v)) (hb : (decide (0 ≤ now) && decide (now ≤ 1099511627776)) = false) :
    Calls Tryz.prog 43 #[.pointer (some ⟨gT, 0, none⟩), .int .i64 near, .int .i64 now] w fun e w' => e = .returned (errv 1) ∧ Ext w w' := by
  have m1 := h.nears.lookup keyI_finds 115 52 Tryz.underlying115 zeroBd.v (zero_bind w) near true
  unfold nearIn at hn
  rw [hn] at m1
  dsimp only [keyI] at m1
  have c2 : w.cell? ⟨gT, 2, none⟩ = some (.map (some gN)) := h.ptr.cells 2
  have K := Blk.new w 52 #[.int .i64 0, .int .i64 0, .int .i64 0, .int .i64 0, .int .i64 0, .int .i64 0, .int .i64 0, .int .i64 0, .int .i64 0, .int .i64 0, .int .i64 0, .int .i64 0, .int .i64 0, .int .i64 0, .int .i64 0, .int .i64 0, .int .i64 0, .int .i64 0, .int .i64 0, .int .i64 0, .int .i64 0, .int .i64 0, .int .i64 0]
  have st := stoBd K b
  have KB := K.row b.cells
  have HE := Lib.hid (((Ext.refl w).alloc (.cells #[.int .i64 0, .int .i64 0, .int .i64 0, .int .i64 0, .int .i64 0, .int .i64 0, .int .i64 0, .int .i64 0, .int .i64 0, .int .i64 0, .int .i64 0, .int .i64 0, .int .i64 0, .int .i64 0, .int .i64 0, .int .i64 0, .int .i64 0, .int .i64 0, .int .i64 0, .int .i64 0, .int .i64 0, .int .i64 0, .int .i64 0] 52)).row (k := w.heap.size) (Nat.le_refl _) b.cells)
  clear h hn K
  go_enter Tryz.func43, Tryz.ntmps43
  go_wp2_with ((apply store_by rfl _ _ _ rfl _ rfl); (focus (with_reducible assumption)); (focus rfl))
  refine (btick_any now _).mono ?_
  rintro e w' ⟨rfl, rfl⟩
  rw [hb]
  go_wp2_with fail
  go_returns
  exact ⟨rfl, HE.out⟩
set_option maxRecDepth 100000 in
set_option maxHeartbeats 2000000 in
theorem tuse_past (gT gP gB gF gN : Nat) (s : PS) (l : List Te) (cF cN : Nat) (near now : Int) (w : World) (h : Tab w gT gP gB gF gN s l cF cN) (i : Nat) (b : Bd) (hn : nearIn near l = some (i, b.v)) (hb : (decide (0 ≤ now) && decide (now ≤ 1099511627776)) = true) (hl : now < b.last) :
    Calls Tryz.prog 43 #[.pointer (some ⟨gT, 0, none⟩), .int .i64 near, .int .i64 now] w fun e w' => e = .returned (errv 9) ∧ Ext w w' := by
  have m1 := h.nears.lookup keyI_finds 115 52 Tryz.underlying115 zeroBd.v (zero_bind w) near true
  unfold nearIn at hn
  rw [hn] at m1
  dsimp only [keyI] at m1
  have c2 : w.cell? ⟨gT, 2, none⟩ = some (.map (some gN)) := h.ptr.cells 2
  have K := Blk.new w 52 #[.int .i64 0, .int .i64 0, .int .i64 0, .int .i64 0, .int .i64 0, .int .i64 0, .int .i64 0, .int .i64 0, .int .i64 0, .int .i64 0, .int .i64 0, .int .i64 0, .int .i64 0, .int .i64 0, .int .i64 0, .int .i64 0, .int .i64 0, .int .i64 0, .int .i64 0, .int .i64 0, .int .i64 0, .int .i64 0, .int .i64 0]
  have st := stoBd K b
  have KB := K.row b.cells
  have HE := Lib.hid (((Ext.refl w).alloc (.cells #[.int .i64 0, .int .i64 0, .int .i64 0, .int .i64 0, .int .i64 0, .int .i64 0, .int .i64 0, .int .i64 0, .int .i64 0, .int .i64 0, .int .i64 0, .int .i64 0, .int .i64 0, .int .i64 0, .int .i64 0, .int .i64 0, .int .i64 0, .int .i64 0, .int .i64 0, .int .i64 0, .int .i64 0, .int .i64 0, .int .i64 0] 52)).row (k := w.heap.size) (Nat.le_refl _) b.cells)
  have c22 := KB.cells 22
  change _ = some (Value.int .i64 b.last) at c22
  have hl' : decide (now < b.last) = true := by simpa using hl
  clear h hn K
  go_enter Tryz.func43, Tryz.ntmps43
  go_wp2_with ((apply store_by rfl _ _ _ rfl _ rfl); (focus (with_reducible assumption)); (focus rfl))
  refine (btick_any now _).mono ?_
  rintro e w' ⟨rfl, rfl⟩
  rw [hb]
  go_wp2_with fail
  go_returns
  exact ⟨rfl, HE.out⟩
end Go.Proofs.YtbjogkpepfgegaaGreatDoor
namespace Go.Proofs.YtbjogkpepfgegaaGreatDoor
open Go.RowKit
/-- A bind that is used. -/
def Bd.at (b : Bd) (now : Int) : Bd := { b with last := now }
set_option maxRecDepth 100000 in
set_option maxHeartbeats 2000000 in
theorem tuse_put (gT gP gB gF gN : Nat) (s : PS) (l : List Te) (cF cN : Nat) (near now : Int) (w : World) (h : Tab w gT gP gB gF gN s l cF cN) (i : Nat) (b : Bd) (hn : nearIn near l = some (i, b.v)) (hb : (decide (0 ≤ now) && decide (now ≤ 1099511627776)) = true) (hl : ¬ now < b.last) :
    Calls Tryz.prog 43 #[.pointer (some ⟨gT, 0, none⟩), .int .i64 near, .int .i64 now] w fun e w' => e = .returned .nilIface ∧ ∃ W, Ext w W ∧ w' = putMap keyI W gN (setVal (l.map Te.inN) i (b.at now).v) cN := by
  have m1 := h.nears.lookup keyI_finds 115 52 Tryz.underlying115 zeroBd.v (zero_bind w) near true
  unfold nearIn at hn
  have hlt := h.nears.lt
  have hTN : gT ≠ gN := by
    have := h.apart
    simp at this
    omega
  have HU := Lib.hid (fun w' (E : Ext w w') => (h.nears.ext E).update keyI_finds 115 52 Tryz.underlying115 near (b.at now).v b.v i hn)
  have HC := Lib.hid (fun w' (E : Ext w w') => (show w'.cell? ⟨gT, 2, none⟩ = some (.map (some gN)) from (h.ptr.ext E).cells 2))
  rw [hn] at m1
  dsimp only [keyI] at m1
  have c2 : w.cell? ⟨gT, 2, none⟩ = some (.map (some gN)) := h.ptr.cells 2
  have K := Blk.new w 52 #[.int .i64 0, .int .i64 0, .int .i64 0, .int .i64 0, .int .i64 0, .int .i64 0, .int .i64 0, .int .i64 0, .int .i64 0, .int .i64 0, .int .i64 0, .int .i64 0, .int .i64 0, .int .i64 0, .int .i64 0, .int .i64 0, .int .i64 0, .int .i64 0, .int .i64 0, .int .i64 0, .int .i64 0, .int .i64 0, .int .i64 0]
  have st := stoBd K b
  have KB := K.row b.cells
  have E1 := ((Ext.refl w).alloc (.cells #[.int .i64 0, .int .i64 0, .int .i64 0, .int .i64 0, .int .i64 0, .int .i64 0, .int .i64 0, .int .i64 0, .int .i64 0, .int .i64 0, .int .i64 0, .int .i64 0, .int .i64 0, .int .i64 0, .int .i64 0, .int .i64 0, .int .i64 0, .int .i64 0, .int .i64 0, .int .i64 0, .int .i64 0, .int .i64 0, .int .i64 0] 52)).row (k := w.heap.size) (Nat.le_refl _) b.cells
  have c22 := KB.cells 22
  change _ = some (Value.int .i64 b.last) at c22
  have fr := KB.free 22
  have hl' : decide (now < b.last) = false := by simpa using hl
  have KN : Blk _ w.heap.size 52 (b.at now).cells := KB.put 22 (.int .i64 now)
  have E2 := E1.set (p := ⟨w.heap.size, 22, none⟩) (Nat.le_refl _) (.int .i64 now)
  have HX := Lib.hid (And.intro KN E2)
  clear h hn K KB E1 KN E2
  go_enter Tryz.func43, Tryz.ntmps43
  go_wp2_with ((apply store_by rfl _ _ _ rfl _ rfl); (focus (with_reducible assumption)); (focus rfl))
  refine (btick_any now _).mono ?_
  rintro e w' ⟨rfl, rfl⟩
  rw [hb]
  go_wp2_with fail
  refine at_worldE (fun W => Blk W w.heap.size 52 (b.at now).cells ∧ Ext w W) HX.out ?_
  rintro W1 ⟨K1, E1⟩
  clear c2 c22 fr st m1 HX
  refine wp_region_held_drew (S := (fun w' => w'.cell? ⟨gT, 2, none⟩ = some (.map (some gN)) ∧ Blk w' w.heap.size 52 (b.at now).cells)) (by kernel_rfl) ⟨HC.out _ E1.drew, Blk.drew K1⟩ (fun hS0 => ?_)
  have EX := E1.drew
  have KX := Blk.drew K1
  clear E1 K1
  generalize W1.drew = V at *
  (refine wpAnyH_take (i := 0) (v := ?_) rfl (by kernel_rfl) (by kernel_rfl) (by kernel_rfl) (fun _ _ _ h => h) (Or.inl ⟨by rfl, ?_⟩) (by assumption) ?_; rotate_left; focus (intro w hSw; (try dsimp only at hSw); go_simp; try with_reducible rfl); try simp only [Act.put, List.getElem_toArray, List.getElem_cons_succ, List.getElem_cons_zero, List.setIfInBounds_toArray, List.set_cons_zero, List.set_cons_succ])
  (refine wpAnyH_take (i := 1) (v := ?_) rfl (by kernel_rfl) (by kernel_rfl) (by kernel_rfl) (fun _ _ _ h => h) (Or.inl ⟨by rfl, ?_⟩) (by assumption) ?_; rotate_left; focus (intro w hSw; (try dsimp only at hSw); go_simp; try with_reducible rfl); try simp only [Act.put, List.getElem_toArray, List.getElem_cons_succ, List.getElem_cons_zero, List.setIfInBounds_toArray, List.set_cons_zero, List.set_cons_succ])
  (refine wpAnyH_take (i := 2) (v := ?_) rfl (by kernel_rfl) (by kernel_rfl) (by kernel_rfl) (fun _ _ _ h => h) (Or.inl ⟨by rfl, ?_⟩) (by assumption) ?_; rotate_left; focus (intro w hSw; (try dsimp only at hSw); go_simp; try with_reducible rfl); try simp only [Act.put, List.getElem_toArray, List.getElem_cons_succ, List.getElem_cons_zero, List.setIfInBounds_toArray, List.set_cons_zero, List.set_cons_succ])
  (refine wpAnyH_take (i := 4) (v := ?_) rfl (by kernel_rfl) (by kernel_rfl) (by kernel_rfl) (fun _ _ _ h => h) (Or.inl ⟨by rfl, ?_⟩) (by assumption) ?_; rotate_left; focus (intro w hSw; (try dsimp only at hSw); go_simp; try with_reducible rfl); try simp only [Act.put, List.getElem_toArray, List.getElem_cons_succ, List.getElem_cons_zero, List.setIfInBounds_toArray, List.set_cons_zero, List.set_cons_succ])
  (refine wpAnyH_take (i := 3) (v := ?_) rfl (by kernel_rfl) (by kernel_rfl) (by kernel_rfl) (fun _ _ _ h => h) (Or.inl ⟨by rfl, ?_⟩) (by assumption) ?_; rotate_left; focus (intro w hSw; (try dsimp only at hSw); go_simp; try with_reducible rfl); try simp only [Act.put, List.getElem_toArray, List.getElem_cons_succ, List.getElem_cons_zero, List.setIfInBounds_toArray, List.set_cons_zero, List.set_cons_succ])
  refine wpAnyH_take (i := 5) rfl (by kernel_rfl) (by kernel_rfl) (by kernel_rfl) (fun _ _ _ h => h) (Or.inl ⟨by rfl, fun W hS => exec_load rfl rfl (loaBd hS.2)⟩) (by assumption) ?_
  (try simp only [Act.put, List.getElem_toArray, List.getElem_cons_succ, List.getElem_cons_zero, List.setIfInBounds_toArray, List.set_cons_zero, List.set_cons_succ])
  (refine wpAnyH_ready (rs := [6]) (by kernel_rfl) (by simp) ?_; refine AllReadyH.cons rfl (fun K hK => ?_) AllReadyH.nil)
  have hu : (Instr.mapUpdate 115 (.map (some gN)) (.int .i64 near) (.agg (b.at now).cells)).run Tryz.prog V = .ok () (putMap keyI V gN (setVal (l.map Te.inN) i (b.at now).v) cN) := HU.out V EX
  go_simp
  refine hK.out _ _ ⟨(World.cell?_of_block (putMap_other keyI V gN _ cN hTN)).trans (HC.out V EX), (putMap_other keyI V gN _ cN (by omega)).trans KX⟩ ?_
  clear hK K
  intro hS
  (try simp only [Act.put, List.getElem_toArray, List.getElem_cons_succ, List.getElem_cons_zero, List.setIfInBounds_toArray, List.set_cons_zero, List.set_cons_succ])
  refine wpAnyH_done (by kernel_rfl) ?_ _
  go_wp2_with fail
  go_returns
  exact ⟨rfl, V, EX, rfl⟩
end Go.Proofs.YtbjogkpepfgegaaGreatDoor
namespace Go.Proofs.YtbjogkpepfgegaaGreatDoor
open Go.RowKit
/-- The entries when the i-th bind is used. -/
def useT (l : List Te) (i : Nat) (now : Int) : List Te := l.modify i fun x => { x with b := x.b.at now }
theorem useT_inF (l : List Te) (i : Nat) (now : Int) : (useT l i now).map Te.inF = l.map Te.inF := by
  unfold useT
  refine List.ext_getElem? fun j => ?_
  rw [List.getElem?_map, List.getElem?_map, List.getElem?_modify]
  by_cases hj : i = j
  · subst hj
    cases l[i]? <;> simp [Te.inF, Bd.at]
  · simp [hj]
theorem useT_inN (l : List Te) (i : Nat) (now : Int) (b : Bd) (x : Te) (hx : l[i]? = some x) (hb : x.b = b) : (useT l i now).map Te.inN = setVal (l.map Te.inN) i (b.at now).v := by
  unfold useT setVal
  refine List.ext_getElem? fun j => ?_
  rw [List.getElem?_map, List.getElem?_modify, List.getElem?_modify, List.getElem?_map]
  by_cases hj : i = j
  · subst hj
    subst hb
    simp [hx, Te.inN, Bd.at]
  · simp [hj]
/-- The table behind a Use. -/
theorem Tab.use {w W : World} {gT gP gB gF gN : Nat} {s : PS} {l : List Te} {cF cN : Nat} (h : Tab w gT gP gB gF gN s l cF cN) (E : Ext w W) (i : Nat) (now : Int) (x : Te) (hx : l[i]? = some x) :
    Tab (putMap keyI W gN (setVal (l.map Te.inN) i (x.b.at now).v) cN) gT gP gB gF gN s (useT l i now) cF cN := by
  have ha := h.apart
  simp at ha
  have hG := putMap_grown keyI W gN (setVal (l.map Te.inN) i (x.b.at now).v) cN
  have hN := (h.nears.ext E).put (setVal (l.map Te.inN) i (x.b.at now).v) cN (fun y hy => by
    obtain ⟨j, hj⟩ := List.mem_iff_getElem?.1 hy
    unfold setVal at hj
    rw [List.getElem?_modify] at hj
    cases hq : (l.map Te.inN)[j]? with
    | none => simp [hq] at hj
    | some q =>
      have := h.nears.old q (List.mem_of_getElem? hq)
      rw [hq] at hj
      split at hj <;> (simp at hj; subst hj; exact this))
  refine ⟨(putMap_other keyI W gN _ cN (by omega)).trans (h.ptr.ext E), (h.prt.ext E).only hG (by simp; omega) (by simp; omega), ?_, ?_, h.apart⟩
  · rw [useT_inF]
    exact (h.flows.ext E).only hG (by simp; omega)
  · rw [useT_inN l i now x.b x hx rfl]
    exact hN
end Go.Proofs.YtbjogkpepfgegaaGreatDoor
namespace Go.Proofs.YtbjogkpepfgegaaGreatDoor
open Go.RowKit
set_option maxRecDepth 100000 in
set_option maxHeartbeats 800000 in
theorem snumber_any (a : Option Addr) (n c : Nat) (xs : List Int) (w : World) (hr : Ints .u8 w a n xs) (hb : Pl.IsB xs) (hn : 2 ≤ n) :
    Calls Tryz.prog 80 #[.slice a n c] w fun e w' => e = .returned (.int .i64 (Pl.at2 xs 0)) ∧ ∃ q, w' = w.drewN q := by
  obtain ⟨b, off, rfl, _, hc⟩ := hr.at (by omega)
  have h0 : w.cell? ⟨b, off, none⟩ = _ := hc 0 (by omega)
  have h1 := hc 1 (by omega)
  have b0 := hb.getD 0
  have b1 := hb.getD 1
  have HV := Lib.hid (show Pl.at2 xs 0 = xs.getD 0 0 * 256 + xs.getD 1 0 from rfl)
  generalize xs.getD 0 0 = x at *
  generalize xs.getD 1 0 = y at *
  obtain ⟨x0, x1⟩ := b0
  obtain ⟨y0, y1⟩ := b1
  have l0 : (0 : Int) < (n : Int) := by omega
  have l1 : (1 : Int) < (n : Int) := by omega
  clear hc hr hb
  go_enter Tryz.func80, Tryz.ntmps80
  go_wp2_with fail
  go_quiet (fail)
  go_wp2
  go_ret
  refine ⟨ret_int ?_, nq, rfl⟩
  rw [HV.out, or8 (x := x * 256) (y := y) (by omega) (by omega) (by omega) (by omega) (by omega)]

/-- The segment, its bytes. -/
def Pl.segV (k : Int) (xs : List Int) (over : Int) : Sg := if Pl.segQ k xs over = 0 then Pl.decSeg k xs else ⟨0, 0, 0, 0, 0, 0, 0⟩
def Pl.segD (k : Int) (xs : List Int) (over : Int) : List Int := if Pl.segQ k xs over = 0 then xs.drop (Pl.segSize k) else []
/-- What Decode gives. -/
def DecGot (k : Int) (xs : List Int) (over : Int) (w : World) (e : Ending) (w' : World) : Prop :=
  ∃ v, e = .returned (.tuple #[(Pl.segV k xs over).v v, erv (Pl.segQ k xs over)]) ∧ Own w' w.heap.size v (Pl.segD k xs over) ∧ Ext w w'
theorem decGot_bad {k over q : Int} {xs : List Int} {w w' : World} (h : Pl.segQ k xs over = q) (hq : q ≠ 0) (he : Ext w w') : DecGot k xs over w (.returned (.tuple #[.agg #[.int .i64 0, .int .i64 0, .int .i64 0, .int .i64 0, .int .i64 0, .int .i64 0, .int .i64 0, .slice none 0 0], errv q])) w' := by
  refine ⟨.slice none 0 0, ?_, ?_, he⟩
  · unfold Pl.segV
    rw [h, if_neg hq, erv_ne hq]
    rfl
  · unfold Pl.segD
    rw [h, if_neg hq]
    exact Own.nil _ _

set_option maxRecDepth 100000 in
set_option maxHeartbeats 2000000 in
theorem sdecode_bad (k : Int) (a : Option Addr) (n c : Nat) (xs : List Int) (over : Int) (w : World) (h : ¬ (k = 6 ∨ k = 17) ∨ ¬ Pl.Word over) :
    Calls Tryz.prog 37 #[.int .i64 k, .slice a n c, .int .i64 over] w (DecGot k xs over w) := by
  have HQ := Lib.hid (show Pl.segQ k xs over = 1 by unfold Pl.segQ; rw [if_pos h])
  have KR := Blk.new w 40 #[.int .i64 0, .int .i64 0, .int .i64 0, .int .i64 0, .int .i64 0, .int .i64 0, .int .i64 0, .slice none 0 0]
  have E0 : Ext w (w.alloc (.cells #[.int .i64 0, .int .i64 0, .int .i64 0, .int .i64 0, .int .i64 0, .int .i64 0, .int .i64 0, .slice none 0 0] 40)) := (Ext.refl w).alloc _
  have s0 := sto KR ⟨0, 0, 0, 0, 0, 0, 0⟩ none 0 0
  by_cases hk : k = 6 ∨ k = 17
  case neg =>
    have hkk : (k == 6 || k == 17) = false := by simp; omega
    clear h hk
    go_enter Tryz.func37, Tryz.ntmps37
    go_wp2_with fail
    refine (known_any _ _).mono ?_
    rintro e w' ⟨rfl, rfl⟩
    rw [hkk]
    go_wp2_with ((apply store_by rfl _ _ _ rfl _ rfl); (focus (with_reducible assumption)); (focus rfl))
    refine bodyPost_ret (results_cell2 Tryz.results37 _ _ w.heap.size 40 #[.int .i64 0, .int .i64 0, .int .i64 0, .int .i64 0, .int .i64 0, .int .i64 0, .int .i64 0, .slice none 0 0] _ rfl (KR.row _) Tryz.underlying40 rfl Tryz.sizeSeg) rfl (decGot_bad HQ.out (by decide) (E0.row (Nat.le_refl _) _))
  have hkk : (k == 6 || k == 17) = true := by simp; omega
  have HO := Lib.hid (show ¬ Pl.Word over from fun ho => by rcases h with h | h; exact h hk; exact h ho)
  clear h hk
  go_enter Tryz.func37, Tryz.ntmps37
  go_wp2_with fail
  refine (known_any _ _).mono ?_
  rintro e w' ⟨rfl, rfl⟩
  rw [hkk]
  go_wp2_with fail
  refine (sword_no over _ HO.out).mono ?_
  rintro e w' ⟨rfl, rfl⟩
  go_wp2_with ((apply store_by rfl _ _ _ rfl _ rfl); (focus (with_reducible assumption)); (focus rfl))
  refine bodyPost_ret (results_cell2 Tryz.results37 _ _ w.heap.size 40 #[.int .i64 0, .int .i64 0, .int .i64 0, .int .i64 0, .int .i64 0, .int .i64 0, .int .i64 0, .slice none 0 0] _ rfl (KR.row _) Tryz.underlying40 rfl Tryz.sizeSeg) rfl (decGot_bad HQ.out (by decide) (E0.row (Nat.le_refl _) _))
theorem head_6 (w : World) : Calls Tryz.prog 73 #[.int .i64 6] w fun e w' => e = .returned (.tuple #[.int .i64 20, .int .i64 16]) ∧ w = w' := head_any 6 w (.inl rfl)
theorem head_17 (w : World) : Calls Tryz.prog 73 #[.int .i64 17] w fun e w' => e = .returned (.tuple #[.int .i64 8, .int .i64 6]) ∧ w = w' := head_any 17 w (.inr rfl)

set_option maxRecDepth 100000 in
set_option maxHeartbeats 2000000 in
theorem sdecode_short6 (a : Option Addr) (n c : Nat) (xs : List Int) (over : Int) (w : World) (hr : Ints .u8 w a n xs) (ho : Pl.Word over) (h : n < 20 ∨ 320 < n) :
    Calls Tryz.prog 37 #[.int .i64 6, .slice a n c, .int .i64 over] w (DecGot 6 xs over w) := by
  have hl := hr.len
  have HQ := Lib.hid (show Pl.segQ 6 xs over = 5 by
    unfold Pl.segQ
    rw [if_neg (by rintro (h1 | h1); exact h1 (by decide); exact h1 ho), if_pos]
    rintro ⟨h2, _⟩
    rw [show Pl.segSize 6 = 20 from rfl] at h2
    omega)
  have KR := Blk.new w 40 #[.int .i64 0, .int .i64 0, .int .i64 0, .int .i64 0, .int .i64 0, .int .i64 0, .int .i64 0, .slice none 0 0]
  have E0 : Ext w (w.alloc (.cells #[.int .i64 0, .int .i64 0, .int .i64 0, .int .i64 0, .int .i64 0, .int .i64 0, .int .i64 0, .slice none 0 0] 40)) := (Ext.refl w).alloc _
  have s0 := sto KR ⟨0, 0, 0, 0, 0, 0, 0⟩ none 0 0
  have HO := Lib.hid ho
  clear ho
  rcases h with h | h
  · have h' : (n : Int) < 20 := by omega
    clear h
    go_enter Tryz.func37, Tryz.ntmps37
    go_wp2_with fail
    refine (known_any _ _).mono ?_
    rintro e w' ⟨rfl, rfl⟩
    go_wp2_with fail
    refine (sword_yes over _ HO.out).mono ?_
    rintro e w' ⟨rfl, rfl⟩
    go_wp2_with fail
    refine (head_6 _).mono ?_
    rintro e w' ⟨rfl, rfl⟩
    go_wp2_with ((apply store_by rfl _ _ _ rfl _ rfl); (focus (with_reducible assumption)); (focus rfl))
    refine bodyPost_ret (results_cell2 Tryz.results37 _ _ w.heap.size 40 #[.int .i64 0, .int .i64 0, .int .i64 0, .int .i64 0, .int .i64 0, .int .i64 0, .int .i64 0, .slice none 0 0] _ rfl (KR.row _) Tryz.underlying40 rfl Tryz.sizeSeg) rfl (decGot_bad HQ.out (by decide) (E0.row (Nat.le_refl _) _))
  · have h' : (320 : Int) < (n : Int) := by omega
    have h'' : ¬ (n : Int) < 20 := by omega
    clear h
    go_enter Tryz.func37, Tryz.ntmps37
    go_wp2_with fail
    refine (known_any _ _).mono ?_
    rintro e w' ⟨rfl, rfl⟩
    go_wp2_with fail
    refine (sword_yes over _ HO.out).mono ?_
    rintro e w' ⟨rfl, rfl⟩
    go_wp2_with fail
    refine (head_6 _).mono ?_
    rintro e w' ⟨rfl, rfl⟩
    go_wp2_with ((apply store_by rfl _ _ _ rfl _ rfl); (focus (with_reducible assumption)); (focus rfl))
    refine bodyPost_ret (results_cell2 Tryz.results37 _ _ w.heap.size 40 #[.int .i64 0, .int .i64 0, .int .i64 0, .int .i64 0, .int .i64 0, .int .i64 0, .int .i64 0, .slice none 0 0] _ rfl (KR.row _) Tryz.underlying40 rfl Tryz.sizeSeg) rfl (decGot_bad HQ.out (by decide) (E0.row (Nat.le_refl _) _))

set_option maxRecDepth 100000 in
set_option maxHeartbeats 2000000 in
theorem sdecode_short17 (a : Option Addr) (n c : Nat) (xs : List Int) (over : Int) (w : World) (hr : Ints .u8 w a n xs) (ho : Pl.Word over) (h : n < 8 ∨ 308 < n) :
    Calls Tryz.prog 37 #[.int .i64 17, .slice a n c, .int .i64 over] w (DecGot 17 xs over w) := by
  have hl := hr.len
  have HQ := Lib.hid (show Pl.segQ 17 xs over = 5 by
    unfold Pl.segQ
    rw [if_neg (by rintro (h1 | h1); exact h1 (by decide); exact h1 ho), if_pos]
    rintro ⟨h2, _⟩
    rw [show Pl.segSize 17 = 8 from rfl] at h2
    omega)
  have KR := Blk.new w 40 #[.int .i64 0, .int .i64 0, .int .i64 0, .int .i64 0, .int .i64 0, .int .i64 0, .int .i64 0, .slice none 0 0]
  have E0 : Ext w (w.alloc (.cells #[.int .i64 0, .int .i64 0, .int .i64 0, .int .i64 0, .int .i64 0, .int .i64 0, .int .i64 0, .slice none 0 0] 40)) := (Ext.refl w).alloc _
  have s0 := sto KR ⟨0, 0, 0, 0, 0, 0, 0⟩ none 0 0
  have HO := Lib.hid ho
  clear ho
  rcases h with h | h
  · have h' : (n : Int) < 8 := by omega
    clear h
    go_enter Tryz.func37, Tryz.ntmps37
    go_wp2_with fail
    refine (known_any _ _).mono ?_
    rintro e w' ⟨rfl, rfl⟩
    go_wp2_with fail
    refine (sword_yes over _ HO.out).mono ?_
    rintro e w' ⟨rfl, rfl⟩
    go_wp2_with fail
    refine (head_17 _).mono ?_
    rintro e w' ⟨rfl, rfl⟩
    go_wp2_with ((apply store_by rfl _ _ _ rfl _ rfl); (focus (with_reducible assumption)); (focus rfl))
    refine bodyPost_ret (results_cell2 Tryz.results37 _ _ w.heap.size 40 #[.int .i64 0, .int .i64 0, .int .i64 0, .int .i64 0, .int .i64 0, .int .i64 0, .int .i64 0, .slice none 0 0] _ rfl (KR.row _) Tryz.underlying40 rfl Tryz.sizeSeg) rfl (decGot_bad HQ.out (by decide) (E0.row (Nat.le_refl _) _))
  · have h' : (308 : Int) < (n : Int) := by omega
    have h'' : ¬ (n : Int) < 8 := by omega
    clear h
    go_enter Tryz.func37, Tryz.ntmps37
    go_wp2_with fail
    refine (known_any _ _).mono ?_
    rintro e w' ⟨rfl, rfl⟩
    go_wp2_with fail
    refine (sword_yes over _ HO.out).mono ?_
    rintro e w' ⟨rfl, rfl⟩
    go_wp2_with fail
    refine (head_17 _).mono ?_
    rintro e w' ⟨rfl, rfl⟩
    go_wp2_with ((apply store_by rfl _ _ _ rfl _ rfl); (focus (with_reducible assumption)); (focus rfl))
    refine bodyPost_ret (results_cell2 Tryz.results37 _ _ w.heap.size 40 #[.int .i64 0, .int .i64 0, .int .i64 0, .int .i64 0, .int .i64 0, .int .i64 0, .int .i64 0, .slice none 0 0] _ rfl (KR.row _) Tryz.underlying40 rfl Tryz.sizeSeg) rfl (decGot_bad HQ.out (by decide) (E0.row (Nat.le_refl _) _))
end Go.Proofs.YtbjogkpepfgegaaGreatDoor
namespace Go.Proofs.YtbjogkpepfgegaaGreatDoor
open Go.RowKit
end Go.Proofs.YtbjogkpepfgegaaGreatDoor
