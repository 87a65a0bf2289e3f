/- bind.Find. Conditions: as each lemma states them. -/
import Derived.Test.YtbjogkpepfgegaaGreatDoorK26
namespace Go.Proofs.YtbjogkpepfgegaaGreatDoor
open Go.RowKit
theorem loaFl {w : World} {R : Nat} {b : Flow} (k : Blk w R 50 b.cells) :
    (Instr.loadAt 50 (.pointer (some ⟨R, 0, none⟩))).run Tryz.prog w = .ok (.agg b.cells) w := by
  have := run_loadAt_mid (P := Tryz.prog) w R 0 50 b.cells.toList _ (fun j v hv => by
    rw [Array.getElem?_toList] at hv
    rw [k.cells, Nat.zero_add]; exact hv) Tryz.underlying50 rfl Tryz.sizeFlow
  simpa using this
set_option maxRecDepth 100000 in
set_option maxHeartbeats 2000000 in
theorem tfind_bad (gT gP gB gF gN : Nat) (s : PS) (l : List Te) (cF cN : Nat) (f : Flow) (w : World) (_h : Tab w gT gP gB gF gN s l cF cN) (hf : ¬ f.Ok) :
    Calls Tryz.prog 67 #[.pointer (some ⟨gT, 0, none⟩), f.v] w fun e w' => e = .returned (.tuple #[zeroBd.v, errv 1]) ∧ Ext w w' := by
  have HB := Lib.hid (fun w' => bcheck_bad f w' hf)
  have K0 := (Blk.new w 50 f.cells).alloc (.cells #[.int .i64 0, .int .i64 0, .int .i64 0, .int .i64 0, .int .i64 0, .int .i64 0, .int .i64 0, .int .i64 0, .int .i64 0, .int .i64 0, .int .i64 0, .int .i64 0, .int .i64 0, .int .i64 0, .int .i64 0, .int .i64 0, .int .i64 0, .int .i64 0, .int .i64 0, .int .i64 0, .int .i64 0, .int .i64 0, .int .i64 0] 52)
  have K1 := Blk.at (n := w.heap.size + 1) (w.alloc (.cells f.cells 50)) 52 #[.int .i64 0, .int .i64 0, .int .i64 0, .int .i64 0, .int .i64 0, .int .i64 0, .int .i64 0, .int .i64 0, .int .i64 0, .int .i64 0, .int .i64 0, .int .i64 0, .int .i64 0, .int .i64 0, .int .i64 0, .int .i64 0, .int .i64 0, .int .i64 0, .int .i64 0, .int .i64 0, .int .i64 0, .int .i64 0, .int .i64 0] (by simp)
  have E1 := ((Ext.refl w).alloc (.cells f.cells 50)).alloc (.cells #[.int .i64 0, .int .i64 0, .int .i64 0, .int .i64 0, .int .i64 0, .int .i64 0, .int .i64 0, .int .i64 0, .int .i64 0, .int .i64 0, .int .i64 0, .int .i64 0, .int .i64 0, .int .i64 0, .int .i64 0, .int .i64 0, .int .i64 0, .int .i64 0, .int .i64 0, .int .i64 0, .int .i64 0, .int .i64 0, .int .i64 0] 52)
  have ld := loaFl K0
  have HX := Lib.hid (And.intro K1 E1)
  clear K0 K1 E1 _h hf
  unfold errv at HB ⊢
  go_enter Tryz.func67, Tryz.ntmps67
  go_wp2_with ((apply load_by rfl _ _ rfl _ rfl); (focus (with_reducible assumption)))
  refine (HB.out _).mono ?_
  rintro e W1 ⟨rfl, q1⟩
  have K2 := (HX.out).1.ext q1
  have E2 := (HX.out).2.trans q1
  have st : (Instr.storeAt 52 (.pointer (some ⟨w.heap.size + 1, 0, none⟩)) (.agg #[.int .i64 0, .int .i64 0, .int .i64 0, .int .i64 0, .int .i64 0, .int .i64 0, .int .i64 0, .int .i64 0, .int .i64 0, .int .i64 0, .int .i64 0, .int .i64 0, .int .i64 0, .int .i64 0, .int .i64 0, .int .i64 0, .int .i64 0, .int .i64 0, .int .i64 0, .int .i64 0, .int .i64 0, .int .i64 0, .int .i64 0])).run Tryz.prog _ = .ok () _ := stoBd K2 zeroBd
  have KF := K2.row zeroBd.cells
  have HE := Lib.hid (E2.row (k := w.heap.size + 1) (Nat.le_succ _) zeroBd.cells)
  clear ld K2 E2 q1 HX
  go_wp2_with ((apply store_by rfl _ _ _ rfl _ rfl); (focus (with_reducible assumption)); (focus rfl))
  refine bodyPost_ret (results_cell2 Tryz.results67 _ _ (w.heap.size + 1) 52 zeroBd.cells _ rfl KF Tryz.underlying52 rfl Tryz.sizeBd) rfl ⟨rfl, HE.out⟩
set_option maxRecDepth 100000 in
set_option maxHeartbeats 2000000 in
theorem tfind_none (gT gP gB gF gN : Nat) (s : PS) (l : List Te) (cF cN : Nat) (f : Flow) (w : World) (h : Tab w gT gP gB gF gN s l cF cN) (hf : f.Ok) (hn : keyF.look f (l.map Te.inF) 0 = none) :
    Calls Tryz.prog 67 #[.pointer (some ⟨gT, 0, none⟩), f.v] w fun e w' => e = .returned (.tuple #[zeroBd.v, errv 4]) ∧ Ext w w' := by
  have HB := Lib.hid (fun w' => bcheck_ok f w' hf)
  have K0 := (Blk.new w 50 f.cells).alloc (.cells #[.int .i64 0, .int .i64 0, .int .i64 0, .int .i64 0, .int .i64 0, .int .i64 0, .int .i64 0, .int .i64 0, .int .i64 0, .int .i64 0, .int .i64 0, .int .i64 0, .int .i64 0, .int .i64 0, .int .i64 0, .int .i64 0, .int .i64 0, .int .i64 0, .int .i64 0, .int .i64 0, .int .i64 0, .int .i64 0, .int .i64 0] 52)
  have K1 := Blk.at (n := w.heap.size + 1) (w.alloc (.cells f.cells 50)) 52 #[.int .i64 0, .int .i64 0, .int .i64 0, .int .i64 0, .int .i64 0, .int .i64 0, .int .i64 0, .int .i64 0, .int .i64 0, .int .i64 0, .int .i64 0, .int .i64 0, .int .i64 0, .int .i64 0, .int .i64 0, .int .i64 0, .int .i64 0, .int .i64 0, .int .i64 0, .int .i64 0, .int .i64 0, .int .i64 0, .int .i64 0] (by simp)
  have E1 := ((Ext.refl w).alloc (.cells f.cells 50)).alloc (.cells #[.int .i64 0, .int .i64 0, .int .i64 0, .int .i64 0, .int .i64 0, .int .i64 0, .int .i64 0, .int .i64 0, .int .i64 0, .int .i64 0, .int .i64 0, .int .i64 0, .int .i64 0, .int .i64 0, .int .i64 0, .int .i64 0, .int .i64 0, .int .i64 0, .int .i64 0, .int .i64 0, .int .i64 0, .int .i64 0, .int .i64 0] 52)
  have HC := Lib.hid (fun w' (E : Ext w w') => (show w'.cell? ⟨gT, 1, none⟩ = some (.map (some gF)) from (h.ptr.ext E).cells 1))
  have HM := Lib.hid (fun w' (E : Ext w w') => (show (Instr.lookup 114 (.map (some gF)) f.v true).run Tryz.prog w' = .ok (.tuple #[.int .i64 0, .bool false]) w' from by
    have := (h.flows.ext E).lookup keyF_finds 114 3 Tryz.underlying114 (.int .i64 0) (by kernel_rfl) f true
    rw [hn] at this
    exact this))
  have ld := loaFl K0
  have HX := Lib.hid (And.intro K0 (And.intro K1 E1))
  clear K0 K1 E1 h hf hn
  unfold errv
  go_enter Tryz.func67, Tryz.ntmps67
  go_wp2_with ((apply load_by rfl _ _ rfl _ rfl); (focus (with_reducible assumption)))
  refine (HB.out _).mono ?_
  rintro e W1 ⟨rfl, q1⟩
  have K0 := (HX.out).1.ext q1
  have K1 := (HX.out).2.1.ext q1
  have E1 := (HX.out).2.2.trans q1
  clear ld q1 HX
  go_wp2_with fail
  refine wp_region_held_drew (S := (fun w' => w'.cell? ⟨gT, 1, none⟩ = some (.map (some gF)) ∧ Blk w' w.heap.size 50 f.cells ∧ (Instr.lookup 114 (.map (some gF)) f.v true).run Tryz.prog w' = .ok (.tuple #[.int .i64 0, .bool false]) w')) (by kernel_rfl) ⟨HC.out _ E1.drew, Blk.drew K0, HM.out _ E1.drew⟩ (fun hS0 => ?_)
  have E2 := E1.drew
  have K2 := Blk.drew K1
  clear E1 K1 K0
  generalize W1.drew = V at *
  (refine wpAnyH_take (i := 0) (v := ?_) rfl (by kernel_rfl) (by kernel_rfl) (by kernel_rfl) (fun _ _ _ h => h) (Or.inl ⟨by rfl, ?_⟩) (by assumption) ?_; rotate_left; focus (intro w hSw; (try dsimp only at hSw); go_simp; try with_reducible rfl); try simp only [Act.put, List.getElem_toArray, List.getElem_cons_succ, List.getElem_cons_zero, List.setIfInBounds_toArray, List.set_cons_zero, List.set_cons_succ])
  (refine wpAnyH_take (i := 1) (v := ?_) rfl (by kernel_rfl) (by kernel_rfl) (by kernel_rfl) (fun _ _ _ h => h) (Or.inl ⟨by rfl, ?_⟩) (by assumption) ?_; rotate_left; focus (intro w hSw; (try dsimp only at hSw); go_simp; try with_reducible rfl); try simp only [Act.put, List.getElem_toArray, List.getElem_cons_succ, List.getElem_cons_zero, List.setIfInBounds_toArray, List.set_cons_zero, List.set_cons_succ])
  (refine wpAnyH_take (i := 2) (v := ?_) rfl (by kernel_rfl) (by kernel_rfl) (by kernel_rfl) (fun _ _ _ h => h) (Or.inl ⟨by rfl, ?_⟩) (by assumption) ?_; rotate_left; focus (intro w hSw; (try dsimp only at hSw); go_simp; try with_reducible rfl); try simp only [Act.put, List.getElem_toArray, List.getElem_cons_succ, List.getElem_cons_zero, List.setIfInBounds_toArray, List.set_cons_zero, List.set_cons_succ])
  (refine wpAnyH_take (i := 3) (v := ?_) rfl (by kernel_rfl) (by kernel_rfl) (by kernel_rfl) (fun _ _ _ h => h) (Or.inl ⟨by rfl, ?_⟩) (by assumption) ?_; rotate_left; focus (intro w hSw; (try dsimp only at hSw); go_simp; try with_reducible rfl); try simp only [Act.put, List.getElem_toArray, List.getElem_cons_succ, List.getElem_cons_zero, List.setIfInBounds_toArray, List.set_cons_zero, List.set_cons_succ])
  refine wpAnyH_take (i := 4) rfl (by kernel_rfl) (by kernel_rfl) (by kernel_rfl) (fun _ _ _ h => h) (Or.inl ⟨by rfl, fun W hS => exec_load rfl rfl (loaFl hS.2.1)⟩) (by assumption) ?_
  (try simp only [Act.put, List.getElem_toArray, List.getElem_cons_succ, List.getElem_cons_zero, List.setIfInBounds_toArray, List.set_cons_zero, List.set_cons_succ])
  (refine wpAnyH_take (i := 5) (v := ?_) rfl (by kernel_rfl) (by kernel_rfl) (by kernel_rfl) (fun _ _ _ h => h) (Or.inl ⟨by rfl, ?_⟩) (by assumption) ?_; rotate_left; focus (intro w hSw; (try dsimp only at hSw); go_simp; try with_reducible rfl); try simp only [Act.put, List.getElem_toArray, List.getElem_cons_succ, List.getElem_cons_zero, List.setIfInBounds_toArray, List.set_cons_zero, List.set_cons_succ])
  (refine wpAnyH_take (i := 6) (v := ?_) rfl (by kernel_rfl) (by kernel_rfl) (by kernel_rfl) (fun _ _ _ h => h) (Or.inl ⟨by rfl, ?_⟩) (by assumption) ?_; rotate_left; focus (intro w hSw; (try dsimp only at hSw); go_simp; try with_reducible rfl); try simp only [Act.put, List.getElem_toArray, List.getElem_cons_succ, List.getElem_cons_zero, List.setIfInBounds_toArray, List.set_cons_zero, List.set_cons_succ])
  (refine wpAnyH_take (i := 7) (v := ?_) rfl (by kernel_rfl) (by kernel_rfl) (by kernel_rfl) (fun _ _ _ h => h) (Or.inl ⟨by rfl, ?_⟩) (by assumption) ?_; rotate_left; focus (intro w hSw; (try dsimp only at hSw); go_simp; try with_reducible rfl); try simp only [Act.put, List.getElem_toArray, List.getElem_cons_succ, List.getElem_cons_zero, List.setIfInBounds_toArray, List.set_cons_zero, List.set_cons_succ])
  (refine wpAnyH_take (i := 8) (v := ?_) rfl (by kernel_rfl) (by kernel_rfl) (by kernel_rfl) (fun _ _ _ h => h) (Or.inl ⟨by rfl, ?_⟩) (by assumption) ?_; rotate_left; focus (intro w hSw; (try dsimp only at hSw); go_simp; try with_reducible rfl); try simp only [Act.put, List.getElem_toArray, List.getElem_cons_succ, List.getElem_cons_zero, List.setIfInBounds_toArray, List.set_cons_zero, List.set_cons_succ])
  (refine wpAnyH_take (i := 9) (v := ?_) rfl (by kernel_rfl) (by kernel_rfl) (by kernel_rfl) (fun _ _ _ h => h) (Or.inl ⟨by rfl, ?_⟩) (by assumption) ?_; rotate_left; focus (intro w hSw; (try dsimp only at hSw); go_simp; try with_reducible rfl); try simp only [Act.put, List.getElem_toArray, List.getElem_cons_succ, List.getElem_cons_zero, List.setIfInBounds_toArray, List.set_cons_zero, List.set_cons_succ])
  (refine wpAnyH_take (i := 10) (v := ?_) rfl (by kernel_rfl) (by kernel_rfl) (by kernel_rfl) (fun _ _ _ h => h) (Or.inl ⟨by rfl, ?_⟩) (by assumption) ?_; rotate_left; focus (intro w hSw; (try dsimp only at hSw); go_simp; try with_reducible rfl); try simp only [Act.put, List.getElem_toArray, List.getElem_cons_succ, List.getElem_cons_zero, List.setIfInBounds_toArray, List.set_cons_zero, List.set_cons_succ])
  refine wpAnyH_done (by kernel_rfl) ?_ _
  have st : (Instr.storeAt 52 (.pointer (some ⟨w.heap.size + 1, 0, none⟩)) (.agg #[.int .i64 0, .int .i64 0, .int .i64 0, .int .i64 0, .int .i64 0, .int .i64 0, .int .i64 0, .int .i64 0, .int .i64 0, .int .i64 0, .int .i64 0, .int .i64 0, .int .i64 0, .int .i64 0, .int .i64 0, .int .i64 0, .int .i64 0, .int .i64 0, .int .i64 0, .int .i64 0, .int .i64 0, .int .i64 0, .int .i64 0])).run Tryz.prog _ = .ok () _ := stoBd K2 zeroBd
  have KF := K2.row zeroBd.cells
  have HE := Lib.hid (E2.row (k := w.heap.size + 1) (Nat.le_succ _) zeroBd.cells)
  clear K2 E2
  go_wp2_with ((apply store_by rfl _ _ _ rfl _ rfl); (focus (with_reducible assumption)); (focus rfl))
  refine bodyPost_ret (results_cell2 Tryz.results67 _ _ (w.heap.size + 1) 52 zeroBd.cells _ rfl KF Tryz.underlying52 rfl Tryz.sizeBd) rfl ⟨rfl, HE.out⟩
set_option maxRecDepth 100000 in
set_option maxHeartbeats 2000000 in
theorem tfind_some (gT gP gB gF gN : Nat) (s : PS) (l : List Te) (cF cN : Nat) (f : Flow) (w : World) (h : Tab w gT gP gB gF gN s l cF cN) (hf : f.Ok) (i j : Nat) (near : Int) (b : Bd) (hn : keyF.look f (l.map Te.inF) 0 = some (i, .int .i64 near)) (hm : nearIn near l = some (j, b.v)) :
    Calls Tryz.prog 67 #[.pointer (some ⟨gT, 0, none⟩), f.v] w fun e w' => e = .returned (.tuple #[b.v, .nilIface]) ∧ Ext w w' := by
  have HB := Lib.hid (fun w' => bcheck_ok f w' hf)
  have K0 := (Blk.new w 50 f.cells).alloc (.cells #[.int .i64 0, .int .i64 0, .int .i64 0, .int .i64 0, .int .i64 0, .int .i64 0, .int .i64 0, .int .i64 0, .int .i64 0, .int .i64 0, .int .i64 0, .int .i64 0, .int .i64 0, .int .i64 0, .int .i64 0, .int .i64 0, .int .i64 0, .int .i64 0, .int .i64 0, .int .i64 0, .int .i64 0, .int .i64 0, .int .i64 0] 52)
  have K1 := Blk.at (n := w.heap.size + 1) (w.alloc (.cells f.cells 50)) 52 #[.int .i64 0, .int .i64 0, .int .i64 0, .int .i64 0, .int .i64 0, .int .i64 0, .int .i64 0, .int .i64 0, .int .i64 0, .int .i64 0, .int .i64 0, .int .i64 0, .int .i64 0, .int .i64 0, .int .i64 0, .int .i64 0, .int .i64 0, .int .i64 0, .int .i64 0, .int .i64 0, .int .i64 0, .int .i64 0, .int .i64 0] (by simp)
  have E1 := ((Ext.refl w).alloc (.cells f.cells 50)).alloc (.cells #[.int .i64 0, .int .i64 0, .int .i64 0, .int .i64 0, .int .i64 0, .int .i64 0, .int .i64 0, .int .i64 0, .int .i64 0, .int .i64 0, .int .i64 0, .int .i64 0, .int .i64 0, .int .i64 0, .int .i64 0, .int .i64 0, .int .i64 0, .int .i64 0, .int .i64 0, .int .i64 0, .int .i64 0, .int .i64 0, .int .i64 0] 52)
  have HC := Lib.hid (fun w' (E : Ext w w') => (show w'.cell? ⟨gT, 1, none⟩ = some (.map (some gF)) from (h.ptr.ext E).cells 1))
  have HM := Lib.hid (fun w' (E : Ext w w') => (show (Instr.lookup 114 (.map (some gF)) f.v true).run Tryz.prog w' = .ok (.tuple #[.int .i64 near, .bool true]) w' from by
    have := (h.flows.ext E).lookup keyF_finds 114 3 Tryz.underlying114 (.int .i64 0) (by kernel_rfl) f true
    rw [hn] at this
    exact this))
  have HN := Lib.hid (fun w' (E : Ext w w') => (show w'.cell? ⟨gT, 2, none⟩ = some (.map (some gN)) ∧ (Instr.lookup 115 (.map (some gN)) (.int .i64 near) false).run Tryz.prog w' = .ok (.agg b.cells) w' from by
    refine ⟨(h.ptr.ext E).cells 2, ?_⟩
    have := (h.nears.ext E).lookup keyI_finds 115 52 Tryz.underlying115 zeroBd.v (zero_bind w') near false
    unfold nearIn at hm
    rw [hm] at this
    exact this))
  have ld := loaFl K0
  have HX := Lib.hid (And.intro K0 (And.intro K1 E1))
  clear K0 K1 E1 h hf hn hm
  go_enter Tryz.func67, Tryz.ntmps67
  go_wp2_with ((apply load_by rfl _ _ rfl _ rfl); (focus (with_reducible assumption)))
  refine (HB.out _).mono ?_
  rintro e W1 ⟨rfl, q1⟩
  have K0 := (HX.out).1.ext q1
  have K1 := (HX.out).2.1.ext q1
  have E1 := (HX.out).2.2.trans q1
  clear ld q1 HX
  go_wp2_with fail
  refine wp_region_held_drew (S := (fun w' => w'.cell? ⟨gT, 1, none⟩ = some (.map (some gF)) ∧ Blk w' w.heap.size 50 f.cells ∧ (Instr.lookup 114 (.map (some gF)) f.v true).run Tryz.prog w' = .ok (.tuple #[.int .i64 near, .bool true]) w')) (by kernel_rfl) ⟨HC.out _ E1.drew, Blk.drew K0, HM.out _ E1.drew⟩ (fun hS0 => ?_)
  have E2 := E1.drew
  have K2 := Blk.drew K1
  clear E1 K1 K0
  generalize W1.drew = V at *
  (refine wpAnyH_take (i := 0) (v := ?_) rfl (by kernel_rfl) (by kernel_rfl) (by kernel_rfl) (fun _ _ _ h => h) (Or.inl ⟨by rfl, ?_⟩) (by assumption) ?_; rotate_left; focus (intro w hSw; (try dsimp only at hSw); go_simp; try with_reducible rfl); try simp only [Act.put, List.getElem_toArray, List.getElem_cons_succ, List.getElem_cons_zero, List.setIfInBounds_toArray, List.set_cons_zero, List.set_cons_succ])
  (refine wpAnyH_take (i := 1) (v := ?_) rfl (by kernel_rfl) (by kernel_rfl) (by kernel_rfl) (fun _ _ _ h => h) (Or.inl ⟨by rfl, ?_⟩) (by assumption) ?_; rotate_left; focus (intro w hSw; (try dsimp only at hSw); go_simp; try with_reducible rfl); try simp only [Act.put, List.getElem_toArray, List.getElem_cons_succ, List.getElem_cons_zero, List.setIfInBounds_toArray, List.set_cons_zero, List.set_cons_succ])
  (refine wpAnyH_take (i := 2) (v := ?_) rfl (by kernel_rfl) (by kernel_rfl) (by kernel_rfl) (fun _ _ _ h => h) (Or.inl ⟨by rfl, ?_⟩) (by assumption) ?_; rotate_left; focus (intro w hSw; (try dsimp only at hSw); go_simp; try with_reducible rfl); try simp only [Act.put, List.getElem_toArray, List.getElem_cons_succ, List.getElem_cons_zero, List.setIfInBounds_toArray, List.set_cons_zero, List.set_cons_succ])
  (refine wpAnyH_take (i := 3) (v := ?_) rfl (by kernel_rfl) (by kernel_rfl) (by kernel_rfl) (fun _ _ _ h => h) (Or.inl ⟨by rfl, ?_⟩) (by assumption) ?_; rotate_left; focus (intro w hSw; (try dsimp only at hSw); go_simp; try with_reducible rfl); try simp only [Act.put, List.getElem_toArray, List.getElem_cons_succ, List.getElem_cons_zero, List.setIfInBounds_toArray, List.set_cons_zero, List.set_cons_succ])
  refine wpAnyH_take (i := 4) rfl (by kernel_rfl) (by kernel_rfl) (by kernel_rfl) (fun _ _ _ h => h) (Or.inl ⟨by rfl, fun W hS => exec_load rfl rfl (loaFl hS.2.1)⟩) (by assumption) ?_
  (try simp only [Act.put, List.getElem_toArray, List.getElem_cons_succ, List.getElem_cons_zero, List.setIfInBounds_toArray, List.set_cons_zero, List.set_cons_succ])
  (refine wpAnyH_take (i := 5) (v := ?_) rfl (by kernel_rfl) (by kernel_rfl) (by kernel_rfl) (fun _ _ _ h => h) (Or.inl ⟨by rfl, ?_⟩) (by assumption) ?_; rotate_left; focus (intro w hSw; (try dsimp only at hSw); go_simp; try with_reducible rfl); try simp only [Act.put, List.getElem_toArray, List.getElem_cons_succ, List.getElem_cons_zero, List.setIfInBounds_toArray, List.set_cons_zero, List.set_cons_succ])
  (refine wpAnyH_take (i := 6) (v := ?_) rfl (by kernel_rfl) (by kernel_rfl) (by kernel_rfl) (fun _ _ _ h => h) (Or.inl ⟨by rfl, ?_⟩) (by assumption) ?_; rotate_left; focus (intro w hSw; (try dsimp only at hSw); go_simp; try with_reducible rfl); try simp only [Act.put, List.getElem_toArray, List.getElem_cons_succ, List.getElem_cons_zero, List.setIfInBounds_toArray, List.set_cons_zero, List.set_cons_succ])
  (refine wpAnyH_take (i := 7) (v := ?_) rfl (by kernel_rfl) (by kernel_rfl) (by kernel_rfl) (fun _ _ _ h => h) (Or.inl ⟨by rfl, ?_⟩) (by assumption) ?_; rotate_left; focus (intro w hSw; (try dsimp only at hSw); go_simp; try with_reducible rfl); try simp only [Act.put, List.getElem_toArray, List.getElem_cons_succ, List.getElem_cons_zero, List.setIfInBounds_toArray, List.set_cons_zero, List.set_cons_succ])
  (refine wpAnyH_take (i := 8) (v := ?_) rfl (by kernel_rfl) (by kernel_rfl) (by kernel_rfl) (fun _ _ _ h => h) (Or.inl ⟨by rfl, ?_⟩) (by assumption) ?_; rotate_left; focus (intro w hSw; (try dsimp only at hSw); go_simp; try with_reducible rfl); try simp only [Act.put, List.getElem_toArray, List.getElem_cons_succ, List.getElem_cons_zero, List.setIfInBounds_toArray, List.set_cons_zero, List.set_cons_succ])
  (refine wpAnyH_take (i := 9) (v := ?_) rfl (by kernel_rfl) (by kernel_rfl) (by kernel_rfl) (fun _ _ _ h => h) (Or.inl ⟨by rfl, ?_⟩) (by assumption) ?_; rotate_left; focus (intro w hSw; (try dsimp only at hSw); go_simp; try with_reducible rfl); try simp only [Act.put, List.getElem_toArray, List.getElem_cons_succ, List.getElem_cons_zero, List.setIfInBounds_toArray, List.set_cons_zero, List.set_cons_succ])
  (refine wpAnyH_take (i := 10) (v := ?_) rfl (by kernel_rfl) (by kernel_rfl) (by kernel_rfl) (fun _ _ _ h => h) (Or.inl ⟨by rfl, ?_⟩) (by assumption) ?_; rotate_left; focus (intro w hSw; (try dsimp only at hSw); go_simp; try with_reducible rfl); try simp only [Act.put, List.getElem_toArray, List.getElem_cons_succ, List.getElem_cons_zero, List.setIfInBounds_toArray, List.set_cons_zero, List.set_cons_succ])
  refine wpAnyH_done (by kernel_rfl) ?_ _
  have st := stoBd K2 b
  have KF := K2.row b.cells
  have HE := Lib.hid (E2.row (k := w.heap.size + 1) (Nat.le_succ _) b.cells)
  obtain ⟨c2, m2⟩ := HN.out V E2
  clear K2 E2
  go_wp2_with ((apply store_by rfl _ _ _ rfl _ rfl); (focus (with_reducible assumption)); (focus rfl))
  refine bodyPost_ret (results_cell2 Tryz.results67 _ _ (w.heap.size + 1) 52 b.cells _ rfl KF Tryz.underlying52 rfl Tryz.sizeBd) rfl ⟨rfl, HE.out⟩
end Go.Proofs.YtbjogkpepfgegaaGreatDoor
