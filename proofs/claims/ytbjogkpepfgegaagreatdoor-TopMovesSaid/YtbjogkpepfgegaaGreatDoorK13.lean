/- The contract of ip6.Decode of bytes that are a packet. Conditions: as each theorem states them. -/
import Derived.Test.YtbjogkpepfgegaaGreatDoorK05
namespace Go.Proofs.YtbjogkpepfgegaaGreatDoor
open Go.RowKit
theorem Own.rowOff {w : World} {B : Nat} {v : Value} {xs : List Int} (h : Own w B v xs) {k : Nat} (hk : ∀ j, v.ownBlock = some j → j ≠ k) (cs : Array Value) : Own (w.setRow k cs) B v xs := by
  refine ⟨h.1, ?_⟩
  rcases h.2 with hn | ⟨g, cap, cur, rfl, hg, hh, rest⟩
  · exact .inl hn
  · exact .inr ⟨g, cap, cur, rfl, hg, by rw [setRow_other _ _ _ _ (hk g rfl)]; exact hh, rest⟩
/-- At a store whose run is known, in a region. -/
theorem wp_store_by {P : Program} {o : Oper} {a : Act} {w : World} {K : Act → World → Prop} {Q : Exit → Act → World → Prop} (ty : TypeId) (x y : Operand) (ho : o.op = .store ty x y) (p : Addr) (hx : a.eval x = .pointer (some p)) {v : Value} {w' : World}
    (h : (Instr.storeAt ty (.pointer (some p)) v).run P w = .ok () w') (hy : a.eval y = v) (k : K (a.put o.dst undef) w') : Oper.wp P o a w K Q := by
  unfold Oper.wp execOp
  simp only [ho, hx, hy, Sem.run_bind, h, Result.andThen_ok, Sem.run_pure]
  exact k

theorem cell_far {w : World} {p q : Addr} (h : ¬ p.block = q.block) (u : Value) : (w.setCell q u).cell? p = w.cell? p := World.cell?_of_block (Below.heap_setCell w q u p.block h)
theorem z19_cells {w : World} {g : Nat} {t : TypeId} (h : Blk w g t #[.int .i64 0, .int .i64 0, .int .i64 0, .int .i64 0, .int .i64 0, .int .i64 0, .int .i64 0, .int .i64 0, .int .i64 0, .int .i64 0, .int .i64 0, .int .i64 0, .int .i64 0, .int .i64 0, .int .i64 0, .int .i64 0, .int .i64 0, .int .i64 0, .slice none 0 0]) : w.cell? ⟨g, 0, none⟩ = some (.int .i64 0) ∧ w.cell? ⟨g, 1, none⟩ = some (.int .i64 0) ∧ w.cell? ⟨g, 2, none⟩ = some (.int .i64 0) ∧ w.cell? ⟨g, 3, none⟩ = some (.int .i64 0) ∧ w.cell? ⟨g, 4, none⟩ = some (.int .i64 0) ∧ w.cell? ⟨g, 5, none⟩ = some (.int .i64 0) ∧ w.cell? ⟨g, 6, none⟩ = some (.int .i64 0) ∧ w.cell? ⟨g, 7, none⟩ = some (.int .i64 0) ∧ w.cell? ⟨g, 8, none⟩ = some (.int .i64 0) ∧ w.cell? ⟨g, 9, none⟩ = some (.int .i64 0) ∧ w.cell? ⟨g, 10, none⟩ = some (.int .i64 0) ∧ w.cell? ⟨g, 11, none⟩ = some (.int .i64 0) ∧ w.cell? ⟨g, 12, none⟩ = some (.int .i64 0) ∧ w.cell? ⟨g, 13, none⟩ = some (.int .i64 0) ∧ w.cell? ⟨g, 14, none⟩ = some (.int .i64 0) ∧ w.cell? ⟨g, 15, none⟩ = some (.int .i64 0) ∧ w.cell? ⟨g, 16, none⟩ = some (.int .i64 0) ∧ w.cell? ⟨g, 17, none⟩ = some (.int .i64 0) ∧ w.cell? ⟨g, 18, none⟩ = some (.slice none 0 0) :=
  ⟨h.cells 0, h.cells 1, h.cells 2, h.cells 3, h.cells 4, h.cells 5, h.cells 6, h.cells 7, h.cells 8, h.cells 9, h.cells 10, h.cells 11, h.cells 12, h.cells 13, h.cells 14, h.cells 15, h.cells 16, h.cells 17, h.cells 18⟩
theorem z19_free {w : World} {g : Nat} {t : TypeId} (h : Blk w g t #[.int .i64 0, .int .i64 0, .int .i64 0, .int .i64 0, .int .i64 0, .int .i64 0, .int .i64 0, .int .i64 0, .int .i64 0, .int .i64 0, .int .i64 0, .int .i64 0, .int .i64 0, .int .i64 0, .int .i64 0, .int .i64 0, .int .i64 0, .int .i64 0, .slice none 0 0]) : w.frozen? ⟨g, 0, none⟩ = false ∧ w.frozen? ⟨g, 1, none⟩ = false ∧ w.frozen? ⟨g, 2, none⟩ = false ∧ w.frozen? ⟨g, 3, none⟩ = false ∧ w.frozen? ⟨g, 4, none⟩ = false ∧ w.frozen? ⟨g, 5, none⟩ = false ∧ w.frozen? ⟨g, 6, none⟩ = false ∧ w.frozen? ⟨g, 7, none⟩ = false ∧ w.frozen? ⟨g, 8, none⟩ = false ∧ w.frozen? ⟨g, 9, none⟩ = false ∧ w.frozen? ⟨g, 10, none⟩ = false ∧ w.frozen? ⟨g, 11, none⟩ = false ∧ w.frozen? ⟨g, 12, none⟩ = false ∧ w.frozen? ⟨g, 13, none⟩ = false ∧ w.frozen? ⟨g, 14, none⟩ = false ∧ w.frozen? ⟨g, 15, none⟩ = false ∧ w.frozen? ⟨g, 16, none⟩ = false ∧ w.frozen? ⟨g, 17, none⟩ = false ∧ w.frozen? ⟨g, 18, none⟩ = false :=
  ⟨h.free 0, h.free 1, h.free 2, h.free 3, h.free 4, h.free 5, h.free 6, h.free 7, h.free 8, h.free 9, h.free 10, h.free 11, h.free 12, h.free 13, h.free 14, h.free 15, h.free 16, h.free 17, h.free 18⟩

set_option maxRecDepth 100000 in
set_option maxHeartbeats 1500000 in
theorem decode6_ok (a : Option Addr) (n c : Nat) (xs : List Int) (w : World) (hr : Ints .u8 w a n xs) (hb : Pl.IsB xs) (hnc : n ≤ c) (h : Pl.Is6 xs) :
    Calls Tryz.prog 27 #[.slice a n c] w fun e w' => ∃ v, e = .returned (.tuple #[.agg ((Pl.dec6 xs).cells v), .nilIface]) ∧ Own w' w.heap.size v (xs.drop 40) ∧ Ext w w' := by
  have KR := Blk.new w 61 #[.int .i64 0, .int .i64 0, .int .i64 0, .int .i64 0, .int .i64 0, .int .i64 0, .int .i64 0, .int .i64 0, .int .i64 0, .int .i64 0, .int .i64 0, .int .i64 0, .int .i64 0, .int .i64 0, .int .i64 0, .int .i64 0, .int .i64 0, .int .i64 0, .slice none 0 0]
  have E0 : Ext w (w.alloc (.cells #[.int .i64 0, .int .i64 0, .int .i64 0, .int .i64 0, .int .i64 0, .int .i64 0, .int .i64 0, .int .i64 0, .int .i64 0, .int .i64 0, .int .i64 0, .int .i64 0, .int .i64 0, .int .i64 0, .int .i64 0, .int .i64 0, .int .i64 0, .int .i64 0, .slice none 0 0] 61)) := (Ext.refl w).alloc _
  have hlen := hr.len
  have h' := h
  unfold Pl.Is6 at h'
  rw [hlen] at h'
  obtain ⟨⟨n0, n1⟩, y0, ⟨y1, y2, y3⟩, y5⟩ := h'
  have g0' : decide ((n : Int) < 40) = false := by simp; omega
  have g1' : decide ((360 : Int) < (n : Int)) = false := by simp; omega
  obtain ⟨b, off, rfl, hbl, hc⟩ := hr.at (by omega)
  have c0 : w.cell? ⟨b, off, none⟩ = _ := hc 0 (by omega)
  have c1 := hc 1 (by omega)
  have c2 := hc 2 (by omega)
  have c3 := hc 3 (by omega)
  have c4 := hc 4 (by omega)
  have c5 := hc 5 (by omega)
  have c6 := hc 6 (by omega)
  have c7 := hc 7 (by omega)
  rw [y0] at c0
  rw [y1] at c1
  rw [y2] at c2
  rw [y3] at c3
  obtain ⟨x40, x41⟩ := hb.getD 4
  obtain ⟨x50, x51⟩ := hb.getD 5
  have x6 := hb.getD 6
  have x7 := hb.getD 7
  have l0 : (0 : Int) < (n : Int) := by omega
  have l1 : (1 : Int) < (n : Int) := by omega
  have l2 : (2 : Int) < (n : Int) := by omega
  have l3 : (3 : Int) < (n : Int) := by omega
  have l4 : (4 : Int) < (n : Int) := by omega
  have l5 : (5 : Int) < (n : Int) := by omega
  have l6 : (6 : Int) < (n : Int) := by omega
  have l7 : (7 : Int) < (n : Int) := by omega
  have hd6 : Pl.dec6 xs = ⟨sixAt (xs.drop 8), sixAt (xs.drop 24), xs.getD 7 0, xs.getD 6 0⟩ := rfl
  obtain ⟨A8, i8, _, r8⟩ := slice_tail (some ⟨b, off, none⟩) n c 8 8 rfl (by omega) hnc (fun h => by cases h)
  obtain ⟨A24, i24, _, r24⟩ := slice_tail (some ⟨b, off, none⟩) n c 24 24 rfl (by omega) hnc (fun h => by cases h)
  obtain ⟨A40, i40, z40, r40⟩ := slice_tail (some ⟨b, off, none⟩) n c 40 40 rfl (by omega) hnc (fun h => by cases h)
  obtain ⟨b8, f8, rfl, _, _⟩ := (i8 w xs hr).at (by omega)
  obtain ⟨b24, f24, rfl, _, _⟩ := (i24 w xs hr).at (by omega)
  have HOF8 := Lib.hid (fun (W : World) (q : Ext w W) => of6_any b8 f8 (n - 8) (c - 8) (xs.drop 8) W ((i8 w xs hr).ext q) (hb.drop 8) (by omega))
  have HOF24 := Lib.hid (fun (W : World) (q : Ext w W) => of6_any b24 f24 (n - 24) (c - 24) (xs.drop 24) W ((i24 w xs hr).ext q) (hb.drop 24) (by omega))
  have HCL := Lib.hid (fun (W : World) (q : Ext w W) => clone_any A40 (n - 40) (c - 40) (xs.drop 40) W ((i40 w xs hr).ext q) z40 (by omega))
  generalize sixAt (xs.drop 8) = S8 at *
  generalize sixAt (xs.drop 24) = S24 at *
  generalize xs.getD 7 0 = X7 at *
  generalize xs.getD 6 0 = X6 at *
  generalize xs.getD 4 0 = X4 at *
  generalize xs.getD 5 0 = X5 at *
  have HD6 := Lib.hid hd6
  have HRR := Lib.hid hr
  have eor : bits BinOp.or IntKind.i64 (X4 * 256) X5 = X4 * 256 + X5 := or8 (by omega) (by omega) (by omega) (by omega) (by omega)
  have g3' : bits .or .u8 (bits .or .u8 0 0) 0 = 0 := by decide
  have g3'' : bits .or .u8 0 0 = 0 := by decide
  have g4 : (X4 * 256 + X5 != (n : Int) - 40) = false := by simpa using y5
  have ew4 : IntKind.i64.wrap X4 = X4 := IntWalk.i64_in _ (by omega)
  have ew5 : IntKind.i64.wrap X5 = X5 := IntWalk.i64_in _ (by omega)
  have ew6 : IntKind.i64.wrap (X4 * 256) = X4 * 256 := IntWalk.i64_in _ (by omega)
  have ew7 : IntKind.i64.wrap ((n : Int) - 40) = (n : Int) - 40 := IntWalk.i64_in _ (by omega)
  have ew8 : IntKind.i64.wrap X6 = X6 := IntWalk.i64_in _ (by omega)
  have ew9 : IntKind.i64.wrap X7 = X7 := IntWalk.i64_in _ (by omega)
  clear h hc hr hb hlen y0 y1 y2 y3 y5 hd6 i8 i24 i40 z40 n1
  go_enter Tryz.func27, Tryz.ntmps27
  go_upto_region 1 with (fail)
  go_quiet (fail)
  go_upto_region 3 with (fail)
  have C6 := Lib.hid c6
  have C7 := Lib.hid c7
  clear c0 c1 c2 c3 c4 c5 c6 c7 eor g3' g3'' g4 ew4 ew5 ew6 ew7 g0' g1'
  refine at_worldE (fun W => Ext w W ∧ Blk W w.heap.size 61 #[.int .i64 0, .int .i64 0, .int .i64 0, .int .i64 0, .int .i64 0, .int .i64 0, .int .i64 0, .int .i64 0, .int .i64 0, .int .i64 0, .int .i64 0, .int .i64 0, .int .i64 0, .int .i64 0, .int .i64 0, .int .i64 0, .int .i64 0, .int .i64 0, .slice none 0 0]) ⟨E0.drewN nq, KR.drewN nq⟩ ?_
  rintro W1 ⟨E1, K1⟩
  have c6 : W1.cell? ⟨b, off + 6, none⟩ = some (.int .u8 X6) := (World.cell?_of_block (Below.block E1 b hbl)).trans C6.out
  have c7 : W1.cell? ⟨b, off + 7, none⟩ = some (.int .u8 X7) := (World.cell?_of_block (Below.block E1 b hbl)).trans C7.out
  clear E0 KR
  have nb : ¬ b = w.heap.size := by omega
  have nb' : ¬ w.heap.size = b := by omega
  have F6 := fun (W : World) (q : Ext w W) => (World.cell?_of_block (a := ⟨b, off + 6, none⟩) (Below.block q b hbl)).trans C6.out
  have F7 := fun (W : World) (q : Ext w W) => (World.cell?_of_block (a := ⟨b, off + 7, none⟩) (Below.block q b hbl)).trans C7.out
  have G6 := Lib.hid F6
  have G7 := Lib.hid F7
  clear F6 F7
  refine wp_region_held_drew (S := (fun w' => w'.cell? ⟨b, off + 6, none⟩ = some (.int .u8 X6) ∧ w'.cell? ⟨b, off + 7, none⟩ = some (.int .u8 X7))) (by kernel_rfl) ⟨c6, c7⟩ (fun hS0 => ?_)
  (refine wpAnyH_take (i := 0) (v := ?_) rfl (by kernel_rfl) (by kernel_rfl) (by kernel_rfl) (fun _ _ _ h => h) (Or.inl ⟨by rfl, ?_⟩) (by assumption) ?_; rotate_left; focus (intro w hSw; (try dsimp only at hSw); go_simp; try with_reducible rfl); try simp only [Act.put, List.getElem_toArray, List.getElem_cons_succ, List.getElem_cons_zero, List.setIfInBounds_toArray, List.set_cons_zero, List.set_cons_succ])
  (refine wpAnyH_take (i := 1) (v := ?_) rfl (by kernel_rfl) (by kernel_rfl) (by kernel_rfl) (fun _ _ _ h => h) (Or.inl ⟨by rfl, ?_⟩) (by assumption) ?_; rotate_left; focus (intro w hSw; (try dsimp only at hSw); go_simp; try with_reducible rfl); try simp only [Act.put, List.getElem_toArray, List.getElem_cons_succ, List.getElem_cons_zero, List.setIfInBounds_toArray, List.set_cons_zero, List.set_cons_succ])
  (refine wpAnyH_take (i := 3) (v := ?_) rfl (by kernel_rfl) (by kernel_rfl) (by kernel_rfl) (fun _ _ _ h => h) (Or.inl ⟨by rfl, ?_⟩) (by assumption) ?_; rotate_left; focus (intro w hSw; (try dsimp only at hSw); go_simp; try with_reducible rfl); try simp only [Act.put, List.getElem_toArray, List.getElem_cons_succ, List.getElem_cons_zero, List.setIfInBounds_toArray, List.set_cons_zero, List.set_cons_succ])
  (refine wpAnyH_take (i := 4) (v := ?_) rfl (by kernel_rfl) (by kernel_rfl) (by kernel_rfl) (fun _ _ _ h => h) (Or.inl ⟨by rfl, ?_⟩) (by assumption) ?_; rotate_left; focus (intro w hSw; (try dsimp only at hSw); go_simp; try with_reducible rfl); try simp only [Act.put, List.getElem_toArray, List.getElem_cons_succ, List.getElem_cons_zero, List.setIfInBounds_toArray, List.set_cons_zero, List.set_cons_succ])
  (refine wpAnyH_take (i := 6) (v := ?_) rfl (by kernel_rfl) (by kernel_rfl) (by kernel_rfl) (fun _ _ _ h => h) (Or.inl ⟨by rfl, ?_⟩) (by assumption) ?_; rotate_left; focus (intro w hSw; (try dsimp only at hSw); go_simp; try with_reducible rfl); try simp only [Act.put, List.getElem_toArray, List.getElem_cons_succ, List.getElem_cons_zero, List.setIfInBounds_toArray, List.set_cons_zero, List.set_cons_succ])
  (refine wpAnyH_take (i := 7) (v := ?_) rfl (by kernel_rfl) (by kernel_rfl) (by kernel_rfl) (fun _ _ _ h => h) (Or.inl ⟨by rfl, ?_⟩) (by assumption) ?_; rotate_left; focus (intro w hSw; (try dsimp only at hSw); go_simp; try with_reducible rfl); try simp only [Act.put, List.getElem_toArray, List.getElem_cons_succ, List.getElem_cons_zero, List.setIfInBounds_toArray, List.set_cons_zero, List.set_cons_succ])
  (refine wpAnyH_take (i := 8) (v := ?_) rfl (by kernel_rfl) (by kernel_rfl) (by kernel_rfl) (fun _ _ _ h => h) (Or.inl ⟨by rfl, ?_⟩) (by assumption) ?_; rotate_left; focus (intro w hSw; (try dsimp only at hSw); go_simp; try with_reducible rfl); try simp only [Act.put, List.getElem_toArray, List.getElem_cons_succ, List.getElem_cons_zero, List.setIfInBounds_toArray, List.set_cons_zero, List.set_cons_succ])
  (refine wpAnyH_take (i := 9) (v := ?_) rfl (by kernel_rfl) (by kernel_rfl) (by kernel_rfl) (fun _ _ _ h => h) (Or.inl ⟨by rfl, ?_⟩) (by assumption) ?_; rotate_left; focus (intro w hSw; (try dsimp only at hSw); go_simp; try with_reducible rfl); try simp only [Act.put, List.getElem_toArray, List.getElem_cons_succ, List.getElem_cons_zero, List.setIfInBounds_toArray, List.set_cons_zero, List.set_cons_succ])
  (refine wpAnyH_take (i := 10) (v := ?_) rfl (by kernel_rfl) (by kernel_rfl) (by kernel_rfl) (fun _ _ _ h => h) (Or.inl ⟨by rfl, ?_⟩) (by assumption) ?_; rotate_left; focus (intro w hSw; (try dsimp only at hSw); go_simp; try with_reducible rfl); try simp only [Act.put, List.getElem_toArray, List.getElem_cons_succ, List.getElem_cons_zero, List.setIfInBounds_toArray, List.set_cons_zero, List.set_cons_succ])
  (refine wpAnyH_take (i := 11) (v := ?_) rfl (by kernel_rfl) (by kernel_rfl) (by kernel_rfl) (fun _ _ _ h => h) (Or.inl ⟨by rfl, ?_⟩) (by assumption) ?_; rotate_left; focus (intro w hSw; (try dsimp only at hSw); go_simp; try with_reducible rfl); try simp only [Act.put, List.getElem_toArray, List.getElem_cons_succ, List.getElem_cons_zero, List.setIfInBounds_toArray, List.set_cons_zero, List.set_cons_succ])
  (refine wpAnyH_take (i := 12) (v := ?_) rfl (by kernel_rfl) (by kernel_rfl) (by kernel_rfl) (fun _ _ _ h => h) (Or.inl ⟨by rfl, ?_⟩) (by assumption) ?_; rotate_left; focus (intro w hSw; (try dsimp only at hSw); go_simp; try with_reducible rfl); try simp only [Act.put, List.getElem_toArray, List.getElem_cons_succ, List.getElem_cons_zero, List.setIfInBounds_toArray, List.set_cons_zero, List.set_cons_succ])
  (refine wpAnyH_take (i := 13) (v := ?_) rfl (by kernel_rfl) (by kernel_rfl) (by kernel_rfl) (fun _ _ _ h => h) (Or.inl ⟨by rfl, ?_⟩) (by assumption) ?_; rotate_left; focus (intro w hSw; (try dsimp only at hSw); go_simp; try with_reducible rfl); try simp only [Act.put, List.getElem_toArray, List.getElem_cons_succ, List.getElem_cons_zero, List.setIfInBounds_toArray, List.set_cons_zero, List.set_cons_succ])
  (refine wpAnyH_take (i := 14) (v := ?_) rfl (by kernel_rfl) (by kernel_rfl) (by kernel_rfl) (fun _ _ _ h => h) (Or.inl ⟨by rfl, ?_⟩) (by assumption) ?_; rotate_left; focus (intro w hSw; (try dsimp only at hSw); go_simp; try with_reducible rfl); try simp only [Act.put, List.getElem_toArray, List.getElem_cons_succ, List.getElem_cons_zero, List.setIfInBounds_toArray, List.set_cons_zero, List.set_cons_succ])
  (refine wpAnyH_take (i := 15) (v := ?_) rfl (by kernel_rfl) (by kernel_rfl) (by kernel_rfl) (fun _ _ _ h => h) (Or.inl ⟨by rfl, ?_⟩) (by assumption) ?_; rotate_left; focus (intro w hSw; (try dsimp only at hSw); go_simp; try with_reducible rfl); try simp only [Act.put, List.getElem_toArray, List.getElem_cons_succ, List.getElem_cons_zero, List.setIfInBounds_toArray, List.set_cons_zero, List.set_cons_succ])
  (refine wpAnyH_ready (rs := [2]) (by kernel_rfl) (by simp) ?_; refine AllReadyH.cons rfl (fun K hK => ?_) AllReadyH.nil)
  go_simp
  go_at_call 60
  refine (HOF8.out _ E1.drew).mono ?_
  rintro e W3 ⟨rfl, q3⟩
  have E3 : Ext w W3 := E1.drew.trans q3
  have K3 : Blk W3 w.heap.size 61 #[.int .i64 0, .int .i64 0, .int .i64 0, .int .i64 0, .int .i64 0, .int .i64 0, .int .i64 0, .int .i64 0, .int .i64 0, .int .i64 0, .int .i64 0, .int .i64 0, .int .i64 0, .int .i64 0, .int .i64 0, .int .i64 0, .int .i64 0, .int .i64 0, .slice none 0 0] := (Blk.drew K1).ext q3
  unfold Six.v Six.cells
  refine hK.out _ _ ⟨G6.out _ E3, G7.out _ E3⟩ ?_
  clear hK K
  intro hS
  (try simp only [Act.put, List.getElem_toArray, List.getElem_cons_succ, List.getElem_cons_zero, List.setIfInBounds_toArray, List.set_cons_zero, List.set_cons_succ])
  (refine wpAnyH_ready (rs := [5]) (by kernel_rfl) (by simp) ?_; refine AllReadyH.cons rfl (fun K hK => ?_) AllReadyH.nil)
  go_simp
  go_at_call 60
  refine (HOF24.out _ E3).mono ?_
  rintro e W5 ⟨rfl, q5⟩
  have E5 : Ext w W5 := E3.trans q5
  have K5 : Blk W5 w.heap.size 61 #[.int .i64 0, .int .i64 0, .int .i64 0, .int .i64 0, .int .i64 0, .int .i64 0, .int .i64 0, .int .i64 0, .int .i64 0, .int .i64 0, .int .i64 0, .int .i64 0, .int .i64 0, .int .i64 0, .int .i64 0, .int .i64 0, .int .i64 0, .int .i64 0, .slice none 0 0] := K3.ext q5
  unfold Six.v Six.cells
  refine hK.out _ _ ⟨G6.out _ E5, G7.out _ E5⟩ ?_
  clear hK K
  intro hS
  (try simp only [Act.put, List.getElem_toArray, List.getElem_cons_succ, List.getElem_cons_zero, List.setIfInBounds_toArray, List.set_cons_zero, List.set_cons_succ])
  (refine wpAnyH_ready (rs := [16]) (by kernel_rfl) (by simp) ?_; refine AllReadyH.cons rfl (fun K hK => ?_) AllReadyH.nil)
  go_simp
  go_at_call 61
  refine (HCL.out _ E5).mono ?_
  rintro e W7 ⟨v7, rfl, o7, q7⟩
  obtain ⟨a7, n7, k7, rfl, _, _⟩ := o7.read
  have E7 : Ext w W7 := E5.trans q7
  have K7 : Blk W7 w.heap.size 61 #[.int .i64 0, .int .i64 0, .int .i64 0, .int .i64 0, .int .i64 0, .int .i64 0, .int .i64 0, .int .i64 0, .int .i64 0, .int .i64 0, .int .i64 0, .int .i64 0, .int .i64 0, .int .i64 0, .int .i64 0, .int .i64 0, .int .i64 0, .int .i64 0, .slice none 0 0] := K5.ext q7
  refine hK.out _ _ ⟨G6.out _ E7, G7.out _ E7⟩ ?_
  clear hK K
  intro hS
  (try simp only [Act.put, List.getElem_toArray, List.getElem_cons_succ, List.getElem_cons_zero, List.setIfInBounds_toArray, List.set_cons_zero, List.set_cons_succ])
  (refine wpAnyH_take (i := 17) (v := ?_) rfl (by kernel_rfl) (by kernel_rfl) (by kernel_rfl) (fun _ _ _ h => h) (Or.inl ⟨by rfl, ?_⟩) (by assumption) ?_; rotate_left; focus (intro w hSw; (try dsimp only at hSw); go_simp; try with_reducible rfl); try simp only [Act.put, List.getElem_toArray, List.getElem_cons_succ, List.getElem_cons_zero, List.setIfInBounds_toArray, List.set_cons_zero, List.set_cons_succ])
  (refine wpAnyH_ready (rs := [18]) (by kernel_rfl) (by simp) ?_; refine AllReadyH.cons rfl (fun K hK => ?_) AllReadyH.nil)
  rw [if_pos (by rfl)]
  refine wp_store_by _ _ _ rfl _ rfl (sto6 K7 ⟨S8, S24, X7, X6⟩ a7 n7 k7) rfl ?_
  have hfar : ∀ j, (W7.setRow w.heap.size ((⟨S8, S24, X7, X6⟩ : P6).cells (.slice a7 n7 k7))).cell? ⟨b, j, none⟩ = W7.cell? ⟨b, j, none⟩ := fun j => World.cell?_of_block (setRow_other _ _ _ _ nb)
  refine hK.out _ _ ⟨(hfar _).trans (G6.out _ E7), (hfar _).trans (G7.out _ E7)⟩ ?_
  clear hK K
  intro hS
  (try simp only [Act.put, List.getElem_toArray, List.getElem_cons_succ, List.getElem_cons_zero, List.setIfInBounds_toArray, List.set_cons_zero, List.set_cons_succ])
  (refine wpAnyH_take (i := 19) (v := ?_) rfl (by kernel_rfl) (by kernel_rfl) (by kernel_rfl) (fun _ _ _ h => h) (Or.inl ⟨by rfl, ?_⟩) (by assumption) ?_; rotate_left; focus (intro w hSw; (try dsimp only at hSw); go_simp; try with_reducible rfl); try simp only [Act.put, List.getElem_toArray, List.getElem_cons_succ, List.getElem_cons_zero, List.setIfInBounds_toArray, List.set_cons_zero, List.set_cons_succ])
  refine wpAnyH_done (by kernel_rfl) ?_ _
  have E8 := E7.row (Nat.le_refl _) ((⟨S8, S24, X7, X6⟩ : P6).cells (.slice a7 n7 k7))
  have hob : ∀ j, (Value.slice a7 n7 k7).ownBlock = some j → j ≠ w.heap.size := fun j hj => by
    have h1 := o7.lt j hj
    have h2 := K5.lt
    omega
  have o8 := (o7.mono E5.size).rowOff hob ((⟨S8, S24, X7, X6⟩ : P6).cells (.slice a7 n7 k7))
  have K8 := K7.row ((⟨S8, S24, X7, X6⟩ : P6).cells (.slice a7 n7 k7))
  have HE8 := Lib.hid E8
  have HO8 := Lib.hid o8
  clear E8 o8 hfar
  go_wp2_with fail
  refine bodyPost_ret (results_cell2 Tryz.results27 _ _ w.heap.size 61 ((⟨S8, S24, X7, X6⟩ : P6).cells (.slice a7 n7 k7)) _ rfl K8 Tryz.underlying61 rfl Tryz.sizeP6) rfl ⟨_, by rw [HD6.out]; rfl, HO8.out, HE8.out⟩
end Go.Proofs.YtbjogkpepfgegaaGreatDoor
