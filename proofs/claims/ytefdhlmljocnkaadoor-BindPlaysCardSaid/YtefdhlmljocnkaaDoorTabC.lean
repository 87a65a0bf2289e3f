/- bind.Make of a flow that is bound. Conditions: as each lemma states them. -/
import Derived.Test.YtefdhlmljocnkaaDoorTabM
namespace Go.Proofs.YtefdhlmljocnkaaDoor
open Go.RowKit
set_option maxRecDepth 100000 in
set_option maxHeartbeats 2000000 in
theorem tmake_clash (gT gP gB gF gN : Nat) (s : PS) (l : List Te) (cF cN : Nat) (f : Flow) (back far now : Int) (w : World) (h : Tab w gT gP gB gF gN s l cF cN) (hf : f.Ok) (hb : 0 ≤ back ∧ back < 4294967296) (hw : 0 ≤ far ∧ far ≤ 65535) (ht : (decide (0 ≤ now) && decide (now ≤ 1099511627776)) = true) (i : Nat) (near : Int) (hn : keyF.look f (l.map Te.inF) 0 = some (i, .int .i64 near)) :
    Calls Tryd.prog 18 #[.pointer (some ⟨gT, 0, none⟩), f.v, .int .i64 back, .int .i64 far, .int .i64 now] w fun e w' => e = .returned (.tuple #[zeroBd.v, errv 8]) ∧ Ext w w' := by
  have HB := Lib.hid (fun w' => bcheck_ok f w' hf)
  have K0 := (Blk.new w 47 f.cells).alloc (.cells #[.int .i64 0, .int .i64 0, .int .i64 0, .int .i64 0, .int .i64 0, .int .i64 0, .int .i64 0, .int .i64 0, .int .i64 0, .int .i64 0, .int .i64 0, .int .i64 0, .int .i64 0, .int .i64 0, .int .i64 0, .int .i64 0, .int .i64 0, .int .i64 0, .int .i64 0, .int .i64 0, .int .i64 0, .int .i64 0, .int .i64 0] 53)
  have K1 := Blk.at (n := w.heap.size + 1) (w.alloc (.cells f.cells 47)) 53 #[.int .i64 0, .int .i64 0, .int .i64 0, .int .i64 0, .int .i64 0, .int .i64 0, .int .i64 0, .int .i64 0, .int .i64 0, .int .i64 0, .int .i64 0, .int .i64 0, .int .i64 0, .int .i64 0, .int .i64 0, .int .i64 0, .int .i64 0, .int .i64 0, .int .i64 0, .int .i64 0, .int .i64 0, .int .i64 0, .int .i64 0] (by simp)
  have E1 := ((Ext.refl w).alloc (.cells f.cells 47)).alloc (.cells #[.int .i64 0, .int .i64 0, .int .i64 0, .int .i64 0, .int .i64 0, .int .i64 0, .int .i64 0, .int .i64 0, .int .i64 0, .int .i64 0, .int .i64 0, .int .i64 0, .int .i64 0, .int .i64 0, .int .i64 0, .int .i64 0, .int .i64 0, .int .i64 0, .int .i64 0, .int .i64 0, .int .i64 0, .int .i64 0, .int .i64 0] 53)
  have HC := Lib.hid (fun w' (E : Ext w w') => (show w'.cell? ⟨gT, 1, none⟩ = some (.map (some gF)) from (h.ptr.ext E).cells 1))
  have HM := Lib.hid (fun w' (E : Ext w w') => (show (Instr.lookup 102 (.map (some gF)) f.v true).run Tryd.prog w' = .ok (.tuple #[.int .i64 near, .bool true]) w' from by
    have := (h.flows.ext E).lookup keyF_finds 102 3 Tryd.underlying102 (.int .i64 0) (by kernel_rfl) f true
    rw [hn] at this
    exact this))
  have ld := loaFl K0
  have HX := Lib.hid (And.intro K0 (And.intro K1 E1))
  clear K0 K1 E1 h hf hn
  unfold errv
  go_enter Tryd.func18, Tryd.ntmps18
  go_wp2_with ((apply load_by rfl _ _ rfl _ rfl); (focus (with_reducible assumption)))
  refine (HB.out _).mono ?_
  rintro e W1 ⟨rfl, q1⟩
  have K0 := (HX.out).1.ext q1
  have K1 := (HX.out).2.1.ext q1
  have E1 := (HX.out).2.2.trans q1
  clear ld q1 HX
  go_wp2_with fail
  refine (is_yes back _ hb.1 hb.2).mono ?_
  rintro e W1 ⟨rfl, rfl⟩
  go_wp2_with fail
  refine (word_yes far _ hw.1 hw.2).mono ?_
  rintro e W1 ⟨rfl, rfl⟩
  go_wp2_with fail
  refine (btick_any now _).mono ?_
  rintro e W1 ⟨rfl, rfl⟩
  rw [ht]
  go_wp2_with fail
  refine wp_region_held_drew (S := (fun w' => w'.cell? ⟨gT, 1, none⟩ = some (.map (some gF)) ∧ Blk w' w.heap.size 47 f.cells ∧ (Instr.lookup 102 (.map (some gF)) f.v true).run Tryd.prog w' = .ok (.tuple #[.int .i64 near, .bool true]) w')) (by kernel_rfl) ⟨HC.out _ E1.drew, Blk.drew K0, HM.out _ E1.drew⟩ (fun hS0 => ?_)
  have E2 := E1.drew
  have K2 := Blk.drew K1
  clear E1 K1 K0
  generalize W1.drew = V at *
  (refine wpAnyH_take (i := 0) (v := ?_) rfl (by kernel_rfl) (by kernel_rfl) (by kernel_rfl) (fun _ _ _ h => h) (Or.inl ⟨by rfl, ?_⟩) (by assumption) ?_; rotate_left; focus (intro w hSw; (try dsimp only at hSw); go_simp; try with_reducible rfl); try simp only [Act.put, List.getElem_toArray, List.getElem_cons_succ, List.getElem_cons_zero, List.setIfInBounds_toArray, List.set_cons_zero, List.set_cons_succ])
  (refine wpAnyH_take (i := 1) (v := ?_) rfl (by kernel_rfl) (by kernel_rfl) (by kernel_rfl) (fun _ _ _ h => h) (Or.inl ⟨by rfl, ?_⟩) (by assumption) ?_; rotate_left; focus (intro w hSw; (try dsimp only at hSw); go_simp; try with_reducible rfl); try simp only [Act.put, List.getElem_toArray, List.getElem_cons_succ, List.getElem_cons_zero, List.setIfInBounds_toArray, List.set_cons_zero, List.set_cons_succ])
  (refine wpAnyH_take (i := 2) (v := ?_) rfl (by kernel_rfl) (by kernel_rfl) (by kernel_rfl) (fun _ _ _ h => h) (Or.inl ⟨by rfl, ?_⟩) (by assumption) ?_; rotate_left; focus (intro w hSw; (try dsimp only at hSw); go_simp; try with_reducible rfl); try simp only [Act.put, List.getElem_toArray, List.getElem_cons_succ, List.getElem_cons_zero, List.setIfInBounds_toArray, List.set_cons_zero, List.set_cons_succ])
  (refine wpAnyH_take (i := 3) (v := ?_) rfl (by kernel_rfl) (by kernel_rfl) (by kernel_rfl) (fun _ _ _ h => h) (Or.inl ⟨by rfl, ?_⟩) (by assumption) ?_; rotate_left; focus (intro w hSw; (try dsimp only at hSw); go_simp; try with_reducible rfl); try simp only [Act.put, List.getElem_toArray, List.getElem_cons_succ, List.getElem_cons_zero, List.setIfInBounds_toArray, List.set_cons_zero, List.set_cons_succ])
  refine wpAnyH_take (i := 4) rfl (by kernel_rfl) (by kernel_rfl) (by kernel_rfl) (fun _ _ _ h => h) (Or.inl ⟨by rfl, fun W hS => exec_load rfl rfl (loaFl hS.2.1)⟩) (by assumption) ?_
  (try simp only [Act.put, List.getElem_toArray, List.getElem_cons_succ, List.getElem_cons_zero, List.setIfInBounds_toArray, List.set_cons_zero, List.set_cons_succ])
  (refine wpAnyH_take (i := 5) (v := ?_) rfl (by kernel_rfl) (by kernel_rfl) (by kernel_rfl) (fun _ _ _ h => h) (Or.inl ⟨by rfl, ?_⟩) (by assumption) ?_; rotate_left; focus (intro w hSw; (try dsimp only at hSw); go_simp; try with_reducible rfl); try simp only [Act.put, List.getElem_toArray, List.getElem_cons_succ, List.getElem_cons_zero, List.setIfInBounds_toArray, List.set_cons_zero, List.set_cons_succ])
  (refine wpAnyH_take (i := 6) (v := ?_) rfl (by kernel_rfl) (by kernel_rfl) (by kernel_rfl) (fun _ _ _ h => h) (Or.inl ⟨by rfl, ?_⟩) (by assumption) ?_; rotate_left; focus (intro w hSw; (try dsimp only at hSw); go_simp; try with_reducible rfl); try simp only [Act.put, List.getElem_toArray, List.getElem_cons_succ, List.getElem_cons_zero, List.setIfInBounds_toArray, List.set_cons_zero, List.set_cons_succ])
  (refine wpAnyH_take (i := 7) (v := ?_) rfl (by kernel_rfl) (by kernel_rfl) (by kernel_rfl) (fun _ _ _ h => h) (Or.inl ⟨by rfl, ?_⟩) (by assumption) ?_; rotate_left; focus (intro w hSw; (try dsimp only at hSw); go_simp; try with_reducible rfl); try simp only [Act.put, List.getElem_toArray, List.getElem_cons_succ, List.getElem_cons_zero, List.setIfInBounds_toArray, List.set_cons_zero, List.set_cons_succ])
  (refine wpAnyH_take (i := 8) (v := ?_) rfl (by kernel_rfl) (by kernel_rfl) (by kernel_rfl) (fun _ _ _ h => h) (Or.inl ⟨by rfl, ?_⟩) (by assumption) ?_; rotate_left; focus (intro w hSw; (try dsimp only at hSw); go_simp; try with_reducible rfl); try simp only [Act.put, List.getElem_toArray, List.getElem_cons_succ, List.getElem_cons_zero, List.setIfInBounds_toArray, List.set_cons_zero, List.set_cons_succ])
  (refine wpAnyH_take (i := 9) (v := ?_) rfl (by kernel_rfl) (by kernel_rfl) (by kernel_rfl) (fun _ _ _ h => h) (Or.inl ⟨by rfl, ?_⟩) (by assumption) ?_; rotate_left; focus (intro w hSw; (try dsimp only at hSw); go_simp; try with_reducible rfl); try simp only [Act.put, List.getElem_toArray, List.getElem_cons_succ, List.getElem_cons_zero, List.setIfInBounds_toArray, List.set_cons_zero, List.set_cons_succ])
  (refine wpAnyH_take (i := 10) (v := ?_) rfl (by kernel_rfl) (by kernel_rfl) (by kernel_rfl) (fun _ _ _ h => h) (Or.inl ⟨by rfl, ?_⟩) (by assumption) ?_; rotate_left; focus (intro w hSw; (try dsimp only at hSw); go_simp; try with_reducible rfl); try simp only [Act.put, List.getElem_toArray, List.getElem_cons_succ, List.getElem_cons_zero, List.setIfInBounds_toArray, List.set_cons_zero, List.set_cons_succ])
  refine wpAnyH_done (by kernel_rfl) ?_ _
  have st : (Instr.storeAt 53 (.pointer (some ⟨w.heap.size + 1, 0, none⟩)) (.agg #[.int .i64 0, .int .i64 0, .int .i64 0, .int .i64 0, .int .i64 0, .int .i64 0, .int .i64 0, .int .i64 0, .int .i64 0, .int .i64 0, .int .i64 0, .int .i64 0, .int .i64 0, .int .i64 0, .int .i64 0, .int .i64 0, .int .i64 0, .int .i64 0, .int .i64 0, .int .i64 0, .int .i64 0, .int .i64 0, .int .i64 0])).run Tryd.prog _ = .ok () _ := stoBd K2 zeroBd
  have KF := K2.row zeroBd.cells
  have HE := Lib.hid (E2.row (k := w.heap.size + 1) (Nat.le_succ _) zeroBd.cells)
  clear K2 E2
  go_wp2_with ((apply store_by rfl _ _ _ rfl _ rfl); (focus (with_reducible assumption)); (focus rfl))
  refine bodyPost_ret (results_cell2 Tryd.results18 _ _ (w.heap.size + 1) 53 zeroBd.cells _ rfl KF Tryd.underlying53 rfl Tryd.sizeBd) rfl ⟨rfl, HE.out⟩
end Go.Proofs.YtefdhlmljocnkaaDoor
