/- bind.Make, where it makes none. Conditions: as each lemma states them. -/
import Derived.Test.YtbjogkpepfgegaaGreatDoorK27
import Derived.Test.YtbjogkpepfgegaaGreatDoorK01
namespace Go.Proofs.YtbjogkpepfgegaaGreatDoor
open Go.RowKit
set_option maxRecDepth 100000 in
set_option maxHeartbeats 2000000 in
theorem tmake_bad (gT gP gB gF gN : Nat) (s : PS) (l : List Te) (cF cN : Nat) (f : Flow) (back far now : Int) (w : World) (_h : Tab w gT gP gB gF gN s l cF cN) (hf : ¬ f.Ok) :
    Calls Tryz.prog 68 #[.pointer (some ⟨gT, 0, none⟩), f.v, .int .i64 back, .int .i64 far, .int .i64 now] w fun e w' => e = .returned (.tuple #[zeroBd.v, errv 1]) ∧ Ext w w' := by
  have HB := Lib.hid (fun w' => bcheck_bad f w' hf)
  have K0 := (Blk.new w 50 f.cells).alloc (.cells #[.int .i64 0, .int .i64 0, .int .i64 0, .int .i64 0, .int .i64 0, .int .i64 0, .int .i64 0, .int .i64 0, .int .i64 0, .int .i64 0, .int .i64 0, .int .i64 0, .int .i64 0, .int .i64 0, .int .i64 0, .int .i64 0, .int .i64 0, .int .i64 0, .int .i64 0, .int .i64 0, .int .i64 0, .int .i64 0, .int .i64 0] 52)
  have K1 := Blk.at (n := w.heap.size + 1) (w.alloc (.cells f.cells 50)) 52 #[.int .i64 0, .int .i64 0, .int .i64 0, .int .i64 0, .int .i64 0, .int .i64 0, .int .i64 0, .int .i64 0, .int .i64 0, .int .i64 0, .int .i64 0, .int .i64 0, .int .i64 0, .int .i64 0, .int .i64 0, .int .i64 0, .int .i64 0, .int .i64 0, .int .i64 0, .int .i64 0, .int .i64 0, .int .i64 0, .int .i64 0] (by simp)
  have E1 := ((Ext.refl w).alloc (.cells f.cells 50)).alloc (.cells #[.int .i64 0, .int .i64 0, .int .i64 0, .int .i64 0, .int .i64 0, .int .i64 0, .int .i64 0, .int .i64 0, .int .i64 0, .int .i64 0, .int .i64 0, .int .i64 0, .int .i64 0, .int .i64 0, .int .i64 0, .int .i64 0, .int .i64 0, .int .i64 0, .int .i64 0, .int .i64 0, .int .i64 0, .int .i64 0, .int .i64 0] 52)
  have ld := loaFl K0
  have HX := Lib.hid (And.intro K1 E1)
  clear K0 K1 E1 _h hf
  unfold errv at HB ⊢
  go_enter Tryz.func68, Tryz.ntmps68
  go_wp2_with ((apply load_by rfl _ _ rfl _ rfl); (focus (with_reducible assumption)))
  refine (HB.out _).mono ?_
  rintro e W1 ⟨rfl, q1⟩
  have K2 := (HX.out).1.ext q1
  have E2 := (HX.out).2.trans q1
  have st : (Instr.storeAt 52 (.pointer (some ⟨w.heap.size + 1, 0, none⟩)) (.agg #[.int .i64 0, .int .i64 0, .int .i64 0, .int .i64 0, .int .i64 0, .int .i64 0, .int .i64 0, .int .i64 0, .int .i64 0, .int .i64 0, .int .i64 0, .int .i64 0, .int .i64 0, .int .i64 0, .int .i64 0, .int .i64 0, .int .i64 0, .int .i64 0, .int .i64 0, .int .i64 0, .int .i64 0, .int .i64 0, .int .i64 0])).run Tryz.prog _ = .ok () _ := stoBd K2 zeroBd
  have KF := K2.row zeroBd.cells
  have HE := Lib.hid (E2.row (k := w.heap.size + 1) (Nat.le_succ _) zeroBd.cells)
  clear ld K2 E2 q1 HX
  go_wp2_with ((apply store_by rfl _ _ _ rfl _ rfl); (focus (with_reducible assumption)); (focus rfl))
  refine bodyPost_ret (results_cell2 Tryz.results68 _ _ (w.heap.size + 1) 52 zeroBd.cells _ rfl KF Tryz.underlying52 rfl Tryz.sizeBd) rfl ⟨rfl, HE.out⟩
set_option maxRecDepth 100000 in
set_option maxHeartbeats 2000000 in
theorem tmake_back (gT gP gB gF gN : Nat) (s : PS) (l : List Te) (cF cN : Nat) (f : Flow) (back far now : Int) (w : World) (_h : Tab w gT gP gB gF gN s l cF cN) (hf : f.Ok) (hb : ¬ (0 ≤ back ∧ back < 4294967296)) :
    Calls Tryz.prog 68 #[.pointer (some ⟨gT, 0, none⟩), f.v, .int .i64 back, .int .i64 far, .int .i64 now] w fun e w' => e = .returned (.tuple #[zeroBd.v, errv 1]) ∧ Ext w w' := by
  have HB := Lib.hid (fun w' => bcheck_ok f w' hf)
  have K0 := (Blk.new w 50 f.cells).alloc (.cells #[.int .i64 0, .int .i64 0, .int .i64 0, .int .i64 0, .int .i64 0, .int .i64 0, .int .i64 0, .int .i64 0, .int .i64 0, .int .i64 0, .int .i64 0, .int .i64 0, .int .i64 0, .int .i64 0, .int .i64 0, .int .i64 0, .int .i64 0, .int .i64 0, .int .i64 0, .int .i64 0, .int .i64 0, .int .i64 0, .int .i64 0] 52)
  have K1 := Blk.at (n := w.heap.size + 1) (w.alloc (.cells f.cells 50)) 52 #[.int .i64 0, .int .i64 0, .int .i64 0, .int .i64 0, .int .i64 0, .int .i64 0, .int .i64 0, .int .i64 0, .int .i64 0, .int .i64 0, .int .i64 0, .int .i64 0, .int .i64 0, .int .i64 0, .int .i64 0, .int .i64 0, .int .i64 0, .int .i64 0, .int .i64 0, .int .i64 0, .int .i64 0, .int .i64 0, .int .i64 0] (by simp)
  have E1 := ((Ext.refl w).alloc (.cells f.cells 50)).alloc (.cells #[.int .i64 0, .int .i64 0, .int .i64 0, .int .i64 0, .int .i64 0, .int .i64 0, .int .i64 0, .int .i64 0, .int .i64 0, .int .i64 0, .int .i64 0, .int .i64 0, .int .i64 0, .int .i64 0, .int .i64 0, .int .i64 0, .int .i64 0, .int .i64 0, .int .i64 0, .int .i64 0, .int .i64 0, .int .i64 0, .int .i64 0] 52)
  have ld := loaFl K0
  have HX := Lib.hid (And.intro K1 E1)
  clear K0 K1 E1 _h hf
  unfold errv
  go_enter Tryz.func68, Tryz.ntmps68
  go_wp2_with ((apply load_by rfl _ _ rfl _ rfl); (focus (with_reducible assumption)))
  refine (HB.out _).mono ?_
  rintro e W1 ⟨rfl, q1⟩
  have K2 := (HX.out).1.ext q1
  have E2 := (HX.out).2.trans q1
  have st : (Instr.storeAt 52 (.pointer (some ⟨w.heap.size + 1, 0, none⟩)) (.agg #[.int .i64 0, .int .i64 0, .int .i64 0, .int .i64 0, .int .i64 0, .int .i64 0, .int .i64 0, .int .i64 0, .int .i64 0, .int .i64 0, .int .i64 0, .int .i64 0, .int .i64 0, .int .i64 0, .int .i64 0, .int .i64 0, .int .i64 0, .int .i64 0, .int .i64 0, .int .i64 0, .int .i64 0, .int .i64 0, .int .i64 0])).run Tryz.prog _ = .ok () _ := stoBd K2 zeroBd
  have KF := K2.row zeroBd.cells
  have HE := Lib.hid (E2.row (k := w.heap.size + 1) (Nat.le_succ _) zeroBd.cells)
  clear ld K2 E2 q1 HX
  go_wp2_with fail
  refine (is_no back _ hb).mono ?_
  rintro e w' ⟨rfl, rfl⟩
  go_wp2_with ((apply store_by rfl _ _ _ rfl _ rfl); (focus (with_reducible assumption)); (focus rfl))
  refine bodyPost_ret (results_cell2 Tryz.results68 _ _ (w.heap.size + 1) 52 zeroBd.cells _ rfl KF Tryz.underlying52 rfl Tryz.sizeBd) rfl ⟨rfl, HE.out⟩
set_option maxRecDepth 100000 in
set_option maxHeartbeats 2000000 in
theorem tmake_far (gT gP gB gF gN : Nat) (s : PS) (l : List Te) (cF cN : Nat) (f : Flow) (back far now : Int) (w : World) (_h : Tab w gT gP gB gF gN s l cF cN) (hf : f.Ok) (hb : 0 ≤ back ∧ back < 4294967296) (hw : ¬ (0 ≤ far ∧ far ≤ 65535)) :
    Calls Tryz.prog 68 #[.pointer (some ⟨gT, 0, none⟩), f.v, .int .i64 back, .int .i64 far, .int .i64 now] w fun e w' => e = .returned (.tuple #[zeroBd.v, errv 1]) ∧ Ext w w' := by
  have HB := Lib.hid (fun w' => bcheck_ok f w' hf)
  have K0 := (Blk.new w 50 f.cells).alloc (.cells #[.int .i64 0, .int .i64 0, .int .i64 0, .int .i64 0, .int .i64 0, .int .i64 0, .int .i64 0, .int .i64 0, .int .i64 0, .int .i64 0, .int .i64 0, .int .i64 0, .int .i64 0, .int .i64 0, .int .i64 0, .int .i64 0, .int .i64 0, .int .i64 0, .int .i64 0, .int .i64 0, .int .i64 0, .int .i64 0, .int .i64 0] 52)
  have K1 := Blk.at (n := w.heap.size + 1) (w.alloc (.cells f.cells 50)) 52 #[.int .i64 0, .int .i64 0, .int .i64 0, .int .i64 0, .int .i64 0, .int .i64 0, .int .i64 0, .int .i64 0, .int .i64 0, .int .i64 0, .int .i64 0, .int .i64 0, .int .i64 0, .int .i64 0, .int .i64 0, .int .i64 0, .int .i64 0, .int .i64 0, .int .i64 0, .int .i64 0, .int .i64 0, .int .i64 0, .int .i64 0] (by simp)
  have E1 := ((Ext.refl w).alloc (.cells f.cells 50)).alloc (.cells #[.int .i64 0, .int .i64 0, .int .i64 0, .int .i64 0, .int .i64 0, .int .i64 0, .int .i64 0, .int .i64 0, .int .i64 0, .int .i64 0, .int .i64 0, .int .i64 0, .int .i64 0, .int .i64 0, .int .i64 0, .int .i64 0, .int .i64 0, .int .i64 0, .int .i64 0, .int .i64 0, .int .i64 0, .int .i64 0, .int .i64 0] 52)
  have ld := loaFl K0
  have HX := Lib.hid (And.intro K1 E1)
  clear K0 K1 E1 _h hf
  unfold errv
  go_enter Tryz.func68, Tryz.ntmps68
  go_wp2_with ((apply load_by rfl _ _ rfl _ rfl); (focus (with_reducible assumption)))
  refine (HB.out _).mono ?_
  rintro e W1 ⟨rfl, q1⟩
  have K2 := (HX.out).1.ext q1
  have E2 := (HX.out).2.trans q1
  have st : (Instr.storeAt 52 (.pointer (some ⟨w.heap.size + 1, 0, none⟩)) (.agg #[.int .i64 0, .int .i64 0, .int .i64 0, .int .i64 0, .int .i64 0, .int .i64 0, .int .i64 0, .int .i64 0, .int .i64 0, .int .i64 0, .int .i64 0, .int .i64 0, .int .i64 0, .int .i64 0, .int .i64 0, .int .i64 0, .int .i64 0, .int .i64 0, .int .i64 0, .int .i64 0, .int .i64 0, .int .i64 0, .int .i64 0])).run Tryz.prog _ = .ok () _ := stoBd K2 zeroBd
  have KF := K2.row zeroBd.cells
  have HE := Lib.hid (E2.row (k := w.heap.size + 1) (Nat.le_succ _) zeroBd.cells)
  clear ld K2 E2 q1 HX
  go_wp2_with fail
  refine (is_yes back _ hb.1 hb.2).mono ?_
  rintro e w' ⟨rfl, rfl⟩
  go_wp2_with fail
  refine (word_no far _ hw).mono ?_
  rintro e w' ⟨rfl, rfl⟩
  go_wp2_with ((apply store_by rfl _ _ _ rfl _ rfl); (focus (with_reducible assumption)); (focus rfl))
  refine bodyPost_ret (results_cell2 Tryz.results68 _ _ (w.heap.size + 1) 52 zeroBd.cells _ rfl KF Tryz.underlying52 rfl Tryz.sizeBd) rfl ⟨rfl, HE.out⟩
set_option maxRecDepth 100000 in
set_option maxHeartbeats 2000000 in
theorem tmake_now (gT gP gB gF gN : Nat) (s : PS) (l : List Te) (cF cN : Nat) (f : Flow) (back far now : Int) (w : World) (_h : Tab w gT gP gB gF gN s l cF cN) (hf : f.Ok) (hb : 0 ≤ back ∧ back < 4294967296) (hw : 0 ≤ far ∧ far ≤ 65535) (ht : (decide (0 ≤ now) && decide (now ≤ 1099511627776)) = false) :
    Calls Tryz.prog 68 #[.pointer (some ⟨gT, 0, none⟩), f.v, .int .i64 back, .int .i64 far, .int .i64 now] w fun e w' => e = .returned (.tuple #[zeroBd.v, errv 1]) ∧ Ext w w' := by
  have HB := Lib.hid (fun w' => bcheck_ok f w' hf)
  have K0 := (Blk.new w 50 f.cells).alloc (.cells #[.int .i64 0, .int .i64 0, .int .i64 0, .int .i64 0, .int .i64 0, .int .i64 0, .int .i64 0, .int .i64 0, .int .i64 0, .int .i64 0, .int .i64 0, .int .i64 0, .int .i64 0, .int .i64 0, .int .i64 0, .int .i64 0, .int .i64 0, .int .i64 0, .int .i64 0, .int .i64 0, .int .i64 0, .int .i64 0, .int .i64 0] 52)
  have K1 := Blk.at (n := w.heap.size + 1) (w.alloc (.cells f.cells 50)) 52 #[.int .i64 0, .int .i64 0, .int .i64 0, .int .i64 0, .int .i64 0, .int .i64 0, .int .i64 0, .int .i64 0, .int .i64 0, .int .i64 0, .int .i64 0, .int .i64 0, .int .i64 0, .int .i64 0, .int .i64 0, .int .i64 0, .int .i64 0, .int .i64 0, .int .i64 0, .int .i64 0, .int .i64 0, .int .i64 0, .int .i64 0] (by simp)
  have E1 := ((Ext.refl w).alloc (.cells f.cells 50)).alloc (.cells #[.int .i64 0, .int .i64 0, .int .i64 0, .int .i64 0, .int .i64 0, .int .i64 0, .int .i64 0, .int .i64 0, .int .i64 0, .int .i64 0, .int .i64 0, .int .i64 0, .int .i64 0, .int .i64 0, .int .i64 0, .int .i64 0, .int .i64 0, .int .i64 0, .int .i64 0, .int .i64 0, .int .i64 0, .int .i64 0, .int .i64 0] 52)
  have ld := loaFl K0
  have HX := Lib.hid (And.intro K1 E1)
  clear K0 K1 E1 _h hf
  unfold errv
  go_enter Tryz.func68, Tryz.ntmps68
  go_wp2_with ((apply load_by rfl _ _ rfl _ rfl); (focus (with_reducible assumption)))
  refine (HB.out _).mono ?_
  rintro e W1 ⟨rfl, q1⟩
  have K2 := (HX.out).1.ext q1
  have E2 := (HX.out).2.trans q1
  have st : (Instr.storeAt 52 (.pointer (some ⟨w.heap.size + 1, 0, none⟩)) (.agg #[.int .i64 0, .int .i64 0, .int .i64 0, .int .i64 0, .int .i64 0, .int .i64 0, .int .i64 0, .int .i64 0, .int .i64 0, .int .i64 0, .int .i64 0, .int .i64 0, .int .i64 0, .int .i64 0, .int .i64 0, .int .i64 0, .int .i64 0, .int .i64 0, .int .i64 0, .int .i64 0, .int .i64 0, .int .i64 0, .int .i64 0])).run Tryz.prog _ = .ok () _ := stoBd K2 zeroBd
  have KF := K2.row zeroBd.cells
  have HE := Lib.hid (E2.row (k := w.heap.size + 1) (Nat.le_succ _) zeroBd.cells)
  clear ld K2 E2 q1 HX
  go_wp2_with fail
  refine (is_yes back _ hb.1 hb.2).mono ?_
  rintro e w' ⟨rfl, rfl⟩
  go_wp2_with fail
  refine (word_yes far _ hw.1 hw.2).mono ?_
  rintro e w' ⟨rfl, rfl⟩
  go_wp2_with fail
  refine (btick_any now _).mono ?_
  rintro e w' ⟨rfl, rfl⟩
  rw [ht]
  go_wp2_with ((apply store_by rfl _ _ _ rfl _ rfl); (focus (with_reducible assumption)); (focus rfl))
  refine bodyPost_ret (results_cell2 Tryz.results68 _ _ (w.heap.size + 1) 52 zeroBd.cells _ rfl KF Tryz.underlying52 rfl Tryz.sizeBd) rfl ⟨rfl, HE.out⟩
end Go.Proofs.YtbjogkpepfgegaaGreatDoor
