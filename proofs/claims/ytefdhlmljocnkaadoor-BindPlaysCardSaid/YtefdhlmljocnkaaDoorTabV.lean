/- bind.Use, where it uses. Conditions: as each lemma states them. -/
import Derived.Test.YtefdhlmljocnkaaDoorTabU
namespace Go.Proofs.YtefdhlmljocnkaaDoor
open Go.RowKit
/-- A bind that is used. -/
def Bd.at (b : Bd) (now : Int) : Bd := { b with last := now }
set_option maxRecDepth 100000 in
set_option maxHeartbeats 2000000 in
theorem tuse_put (gT gP gB gF gN : Nat) (s : PS) (l : List Te) (cF cN : Nat) (near now : Int) (w : World) (h : Tab w gT gP gB gF gN s l cF cN) (i : Nat) (b : Bd) (hn : nearIn near l = some (i, b.v)) (hb : (decide (0 ≤ now) && decide (now ≤ 1099511627776)) = true) (hl : ¬ now < b.last) :
    Calls Tryd.prog 20 #[.pointer (some ⟨gT, 0, none⟩), .int .i64 near, .int .i64 now] w fun e w' => e = .returned .nilIface ∧ ∃ W, Ext w W ∧ w' = putMap keyI W gN (setVal (l.map Te.inN) i (b.at now).v) cN := by
  have m1 := h.nears.lookup keyI_finds 103 53 Tryd.underlying103 zeroBd.v (zero_bind w) near true
  unfold nearIn at hn
  have hlt := h.nears.lt
  have hTN : gT ≠ gN := by
    have := h.apart
    simp at this
    omega
  have HU := Lib.hid (fun w' (E : Ext w w') => (h.nears.ext E).update keyI_finds 103 53 Tryd.underlying103 near (b.at now).v b.v i hn)
  have HC := Lib.hid (fun w' (E : Ext w w') => (show w'.cell? ⟨gT, 2, none⟩ = some (.map (some gN)) from (h.ptr.ext E).cells 2))
  rw [hn] at m1
  dsimp only [keyI] at m1
  have c2 : w.cell? ⟨gT, 2, none⟩ = some (.map (some gN)) := h.ptr.cells 2
  have K := Blk.new w 53 #[.int .i64 0, .int .i64 0, .int .i64 0, .int .i64 0, .int .i64 0, .int .i64 0, .int .i64 0, .int .i64 0, .int .i64 0, .int .i64 0, .int .i64 0, .int .i64 0, .int .i64 0, .int .i64 0, .int .i64 0, .int .i64 0, .int .i64 0, .int .i64 0, .int .i64 0, .int .i64 0, .int .i64 0, .int .i64 0, .int .i64 0]
  have st := stoBd K b
  have KB := K.row b.cells
  have E1 := ((Ext.refl w).alloc (.cells #[.int .i64 0, .int .i64 0, .int .i64 0, .int .i64 0, .int .i64 0, .int .i64 0, .int .i64 0, .int .i64 0, .int .i64 0, .int .i64 0, .int .i64 0, .int .i64 0, .int .i64 0, .int .i64 0, .int .i64 0, .int .i64 0, .int .i64 0, .int .i64 0, .int .i64 0, .int .i64 0, .int .i64 0, .int .i64 0, .int .i64 0] 53)).row (k := w.heap.size) (Nat.le_refl _) b.cells
  have c22 := KB.cells 22
  change _ = some (Value.int .i64 b.last) at c22
  have fr := KB.free 22
  have hl' : decide (now < b.last) = false := by simpa using hl
  have KN : Blk _ w.heap.size 53 (b.at now).cells := KB.put 22 (.int .i64 now)
  have E2 := E1.set (p := ⟨w.heap.size, 22, none⟩) (Nat.le_refl _) (.int .i64 now)
  have HX := Lib.hid (And.intro KN E2)
  clear h hn K KB E1 KN E2
  go_enter Tryd.func20, Tryd.ntmps20
  go_wp2_with ((apply store_by rfl _ _ _ rfl _ rfl); (focus (with_reducible assumption)); (focus rfl))
  refine (btick_any now _).mono ?_
  rintro e w' ⟨rfl, rfl⟩
  rw [hb]
  go_wp2_with fail
  refine at_worldE (fun W => Blk W w.heap.size 53 (b.at now).cells ∧ Ext w W) HX.out ?_
  rintro W1 ⟨K1, E1⟩
  clear c2 c22 fr st m1 HX
  refine wp_region_held_drew (S := (fun w' => w'.cell? ⟨gT, 2, none⟩ = some (.map (some gN)) ∧ Blk w' w.heap.size 53 (b.at now).cells)) (by kernel_rfl) ⟨HC.out _ E1.drew, Blk.drew K1⟩ (fun hS0 => ?_)
  have EX := E1.drew
  have KX := Blk.drew K1
  clear E1 K1
  generalize W1.drew = V at *
  (refine wpAnyH_take (i := 0) (v := ?_) rfl (by kernel_rfl) (by kernel_rfl) (by kernel_rfl) (fun _ _ _ h => h) (Or.inl ⟨by rfl, ?_⟩) (by assumption) ?_; rotate_left; focus (intro w hSw; (try dsimp only at hSw); go_simp; try with_reducible rfl); try simp only [Act.put, List.getElem_toArray, List.getElem_cons_succ, List.getElem_cons_zero, List.setIfInBounds_toArray, List.set_cons_zero, List.set_cons_succ])
  (refine wpAnyH_take (i := 1) (v := ?_) rfl (by kernel_rfl) (by kernel_rfl) (by kernel_rfl) (fun _ _ _ h => h) (Or.inl ⟨by rfl, ?_⟩) (by assumption) ?_; rotate_left; focus (intro w hSw; (try dsimp only at hSw); go_simp; try with_reducible rfl); try simp only [Act.put, List.getElem_toArray, List.getElem_cons_succ, List.getElem_cons_zero, List.setIfInBounds_toArray, List.set_cons_zero, List.set_cons_succ])
  (refine wpAnyH_take (i := 2) (v := ?_) rfl (by kernel_rfl) (by kernel_rfl) (by kernel_rfl) (fun _ _ _ h => h) (Or.inl ⟨by rfl, ?_⟩) (by assumption) ?_; rotate_left; focus (intro w hSw; (try dsimp only at hSw); go_simp; try with_reducible rfl); try simp only [Act.put, List.getElem_toArray, List.getElem_cons_succ, List.getElem_cons_zero, List.setIfInBounds_toArray, List.set_cons_zero, List.set_cons_succ])
  (refine wpAnyH_take (i := 4) (v := ?_) rfl (by kernel_rfl) (by kernel_rfl) (by kernel_rfl) (fun _ _ _ h => h) (Or.inl ⟨by rfl, ?_⟩) (by assumption) ?_; rotate_left; focus (intro w hSw; (try dsimp only at hSw); go_simp; try with_reducible rfl); try simp only [Act.put, List.getElem_toArray, List.getElem_cons_succ, List.getElem_cons_zero, List.setIfInBounds_toArray, List.set_cons_zero, List.set_cons_succ])
  (refine wpAnyH_take (i := 3) (v := ?_) rfl (by kernel_rfl) (by kernel_rfl) (by kernel_rfl) (fun _ _ _ h => h) (Or.inl ⟨by rfl, ?_⟩) (by assumption) ?_; rotate_left; focus (intro w hSw; (try dsimp only at hSw); go_simp; try with_reducible rfl); try simp only [Act.put, List.getElem_toArray, List.getElem_cons_succ, List.getElem_cons_zero, List.setIfInBounds_toArray, List.set_cons_zero, List.set_cons_succ])
  refine wpAnyH_take (i := 5) rfl (by kernel_rfl) (by kernel_rfl) (by kernel_rfl) (fun _ _ _ h => h) (Or.inl ⟨by rfl, fun W hS => exec_load rfl rfl (loaBd hS.2)⟩) (by assumption) ?_
  (try simp only [Act.put, List.getElem_toArray, List.getElem_cons_succ, List.getElem_cons_zero, List.setIfInBounds_toArray, List.set_cons_zero, List.set_cons_succ])
  (refine wpAnyH_ready (rs := [6]) (by kernel_rfl) (by simp) ?_; refine AllReadyH.cons rfl (fun K hK => ?_) AllReadyH.nil)
  have hu : (Instr.mapUpdate 103 (.map (some gN)) (.int .i64 near) (.agg (b.at now).cells)).run Tryd.prog V = .ok () (putMap keyI V gN (setVal (l.map Te.inN) i (b.at now).v) cN) := HU.out V EX
  go_simp
  refine hK.out _ _ ⟨(World.cell?_of_block (putMap_other keyI V gN _ cN hTN)).trans (HC.out V EX), (putMap_other keyI V gN _ cN (by omega)).trans KX⟩ ?_
  clear hK K
  intro hS
  (try simp only [Act.put, List.getElem_toArray, List.getElem_cons_succ, List.getElem_cons_zero, List.setIfInBounds_toArray, List.set_cons_zero, List.set_cons_succ])
  refine wpAnyH_done (by kernel_rfl) ?_ _
  go_wp2_with fail
  go_returns
  exact ⟨rfl, V, EX, rfl⟩
end Go.Proofs.YtefdhlmljocnkaaDoor
