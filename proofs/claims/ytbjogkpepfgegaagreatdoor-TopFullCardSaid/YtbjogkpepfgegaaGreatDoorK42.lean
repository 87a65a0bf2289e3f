/- bind.Make where it makes one. Conditions: as each lemma states them. -/
import Derived.Test.YtbjogkpepfgegaaGreatDoorK38
import Derived.Test.YtbjogkpepfgegaaGreatDoorK06
namespace Go.Proofs.YtbjogkpepfgegaaGreatDoor
open Go.RowKit
set_option maxRecDepth 100000 in
set_option maxHeartbeats 2000000 in
theorem tmake_ok (gT gP gB gF gN : Nat) (s : PS) (l : List Te) (cF cN : Nat) (f : Flow) (back far now : Int) (w : World) (h : Tab w gT gP gB gF gN s l cF cN) (hf : f.Ok) (hb : 0 ≤ back ∧ back < 4294967296) (hw : 0 ≤ far ∧ far ≤ 65535) (ht : (decide (0 ≤ now) && decide (now ≤ 1099511627776)) = true) (hn : keyF.look f (l.map Te.inF) 0 = none) (hm : nearIn (s.takeN f.client) l = none) (hq : s.takeQ f.client = 0) :
    Calls Tryz.prog 68 #[.pointer (some ⟨gT, 0, none⟩), f.v, .int .i64 back, .int .i64 far, .int .i64 now] w fun e w' => e = .returned (.tuple #[(newBd f back far now s).v, .nilIface]) ∧ Kp [gB, gF, gN] w w' ∧ Tab w' gT gP gB gF gN (s.take f.client) (l ++ [⟨newBd f back far now s, cF, cN⟩]) (cF + 1) (cN + 1) := by
  have HB := Lib.hid (fun w' => bcheck_ok f w' hf)
  have HTK := Lib.hid (fun w' (E : Ext w w') => take_any gP gB s f.client w' (h.prt.ext E))
  have K0 := (Blk.new w 50 f.cells).alloc (.cells #[.int .i64 0, .int .i64 0, .int .i64 0, .int .i64 0, .int .i64 0, .int .i64 0, .int .i64 0, .int .i64 0, .int .i64 0, .int .i64 0, .int .i64 0, .int .i64 0, .int .i64 0, .int .i64 0, .int .i64 0, .int .i64 0, .int .i64 0, .int .i64 0, .int .i64 0, .int .i64 0, .int .i64 0, .int .i64 0, .int .i64 0] 52)
  have K1 := Blk.at (n := w.heap.size + 1) (w.alloc (.cells f.cells 50)) 52 #[.int .i64 0, .int .i64 0, .int .i64 0, .int .i64 0, .int .i64 0, .int .i64 0, .int .i64 0, .int .i64 0, .int .i64 0, .int .i64 0, .int .i64 0, .int .i64 0, .int .i64 0, .int .i64 0, .int .i64 0, .int .i64 0, .int .i64 0, .int .i64 0, .int .i64 0, .int .i64 0, .int .i64 0, .int .i64 0, .int .i64 0] (by simp)
  have E1 := ((Ext.refl w).alloc (.cells f.cells 50)).alloc (.cells #[.int .i64 0, .int .i64 0, .int .i64 0, .int .i64 0, .int .i64 0, .int .i64 0, .int .i64 0, .int .i64 0, .int .i64 0, .int .i64 0, .int .i64 0, .int .i64 0, .int .i64 0, .int .i64 0, .int .i64 0, .int .i64 0, .int .i64 0, .int .i64 0, .int .i64 0, .int .i64 0, .int .i64 0, .int .i64 0, .int .i64 0] 52)
  have HC := Lib.hid (fun w' (E : Ext w w') => (show w'.cell? ⟨gT, 1, none⟩ = some (.map (some gF)) from (h.ptr.ext E).cells 1))
  have HC0 := Lib.hid (fun w' (E : Ext w w') => (show w'.cell? ⟨gT, 0, none⟩ = some (.pointer (some ⟨gP, 0, none⟩)) from (h.ptr.ext E).cells 0))
  have HM := Lib.hid (fun w' (E : Ext w w') => (show (Instr.lookup 114 (.map (some gF)) f.v true).run Tryz.prog w' = .ok (.tuple #[.int .i64 0, .bool false]) w' from by
    have := (h.flows.ext E).lookup keyF_finds 114 3 Tryz.underlying114 (.int .i64 0) (by kernel_rfl) f true
    rw [hn] at this
    exact this))
  have ld := loaFl K0
  have HX := Lib.hid (And.intro K0 (And.intro K1 E1))
  have hTB : gT ≠ gB := by have := h.apart; simp at this; omega
  have hBl : gB < w.heap.size := h.prt.row.lt
  have hPl : gP < w.heap.size := h.prt.ptr.lt
  have hTl : gT < w.heap.size := h.ptr.lt
  have HH := Lib.hid h
  have HN := Lib.hid (And.intro hn hm)
  have HE := Lib.hid (show erv (s.takeQ f.client) = .nilIface by rw [hq]; rfl)
  unfold newBd
  clear K0 K1 E1 h hf hn hm hq
  generalize s.takeN f.client = N at *
  generalize s.takeQ f.client = q at *
  generalize s.take f.client = s' at *
  go_enter Tryz.func68, Tryz.ntmps68
  go_wp2_with ((apply load_by rfl _ _ rfl _ rfl); (focus (with_reducible assumption)))
  refine (HB.out _).mono ?_
  rintro e W1 ⟨rfl, q1⟩
  have K0 := (HX.out).1.ext q1
  have K1 := (HX.out).2.1.ext q1
  have E1 := (HX.out).2.2.trans q1
  clear ld q1 HX
  go_wp2_with fail
  refine (is_yes back _ hb.1 hb.2).mono ?_
  rintro e W1 ⟨rfl, rfl⟩
  go_wp2_with fail
  refine (word_yes far _ hw.1 hw.2).mono ?_
  rintro e W1 ⟨rfl, rfl⟩
  go_wp2_with fail
  refine (btick_any now _).mono ?_
  rintro e W1 ⟨rfl, rfl⟩
  rw [ht]
  go_wp2_with fail
  refine wp_region_held_drew (S := (fun w' => w'.cell? ⟨gT, 1, none⟩ = some (.map (some gF)) ∧ Blk w' w.heap.size 50 f.cells ∧ (Instr.lookup 114 (.map (some gF)) f.v true).run Tryz.prog w' = .ok (.tuple #[.int .i64 0, .bool false]) w')) (by kernel_rfl) ⟨HC.out _ E1.drew, Blk.drew K0, HM.out _ E1.drew⟩ (fun hS0 => ?_)
  have E2 := E1.drew
  have K2 := Blk.drew K1
  have K3 := Blk.drew K0
  clear E1 K1 K0
  generalize W1.drew = V at *
  (refine wpAnyH_take (i := 0) (v := ?_) rfl (by kernel_rfl) (by kernel_rfl) (by kernel_rfl) (fun _ _ _ h => h) (Or.inl ⟨by rfl, ?_⟩) (by assumption) ?_; rotate_left; focus (intro w hSw; (try dsimp only at hSw); go_simp; try with_reducible rfl); try simp only [Act.put, List.getElem_toArray, List.getElem_cons_succ, List.getElem_cons_zero, List.setIfInBounds_toArray, List.set_cons_zero, List.set_cons_succ])
  (refine wpAnyH_take (i := 1) (v := ?_) rfl (by kernel_rfl) (by kernel_rfl) (by kernel_rfl) (fun _ _ _ h => h) (Or.inl ⟨by rfl, ?_⟩) (by assumption) ?_; rotate_left; focus (intro w hSw; (try dsimp only at hSw); go_simp; try with_reducible rfl); try simp only [Act.put, List.getElem_toArray, List.getElem_cons_succ, List.getElem_cons_zero, List.setIfInBounds_toArray, List.set_cons_zero, List.set_cons_succ])
  (refine wpAnyH_take (i := 2) (v := ?_) rfl (by kernel_rfl) (by kernel_rfl) (by kernel_rfl) (fun _ _ _ h => h) (Or.inl ⟨by rfl, ?_⟩) (by assumption) ?_; rotate_left; focus (intro w hSw; (try dsimp only at hSw); go_simp; try with_reducible rfl); try simp only [Act.put, List.getElem_toArray, List.getElem_cons_succ, List.getElem_cons_zero, List.setIfInBounds_toArray, List.set_cons_zero, List.set_cons_succ])
  (refine wpAnyH_take (i := 3) (v := ?_) rfl (by kernel_rfl) (by kernel_rfl) (by kernel_rfl) (fun _ _ _ h => h) (Or.inl ⟨by rfl, ?_⟩) (by assumption) ?_; rotate_left; focus (intro w hSw; (try dsimp only at hSw); go_simp; try with_reducible rfl); try simp only [Act.put, List.getElem_toArray, List.getElem_cons_succ, List.getElem_cons_zero, List.setIfInBounds_toArray, List.set_cons_zero, List.set_cons_succ])
  refine wpAnyH_take (i := 4) rfl (by kernel_rfl) (by kernel_rfl) (by kernel_rfl) (fun _ _ _ h => h) (Or.inl ⟨by rfl, fun W hS => exec_load rfl rfl (loaFl hS.2.1)⟩) (by assumption) ?_
  (try simp only [Act.put, List.getElem_toArray, List.getElem_cons_succ, List.getElem_cons_zero, List.setIfInBounds_toArray, List.set_cons_zero, List.set_cons_succ])
  (refine wpAnyH_take (i := 5) (v := ?_) rfl (by kernel_rfl) (by kernel_rfl) (by kernel_rfl) (fun _ _ _ h => h) (Or.inl ⟨by rfl, ?_⟩) (by assumption) ?_; rotate_left; focus (intro w hSw; (try dsimp only at hSw); go_simp; try with_reducible rfl); try simp only [Act.put, List.getElem_toArray, List.getElem_cons_succ, List.getElem_cons_zero, List.setIfInBounds_toArray, List.set_cons_zero, List.set_cons_succ])
  (refine wpAnyH_take (i := 6) (v := ?_) rfl (by kernel_rfl) (by kernel_rfl) (by kernel_rfl) (fun _ _ _ h => h) (Or.inl ⟨by rfl, ?_⟩) (by assumption) ?_; rotate_left; focus (intro w hSw; (try dsimp only at hSw); go_simp; try with_reducible rfl); try simp only [Act.put, List.getElem_toArray, List.getElem_cons_succ, List.getElem_cons_zero, List.setIfInBounds_toArray, List.set_cons_zero, List.set_cons_succ])
  (refine wpAnyH_take (i := 7) (v := ?_) rfl (by kernel_rfl) (by kernel_rfl) (by kernel_rfl) (fun _ _ _ h => h) (Or.inl ⟨by rfl, ?_⟩) (by assumption) ?_; rotate_left; focus (intro w hSw; (try dsimp only at hSw); go_simp; try with_reducible rfl); try simp only [Act.put, List.getElem_toArray, List.getElem_cons_succ, List.getElem_cons_zero, List.setIfInBounds_toArray, List.set_cons_zero, List.set_cons_succ])
  (refine wpAnyH_take (i := 8) (v := ?_) rfl (by kernel_rfl) (by kernel_rfl) (by kernel_rfl) (fun _ _ _ h => h) (Or.inl ⟨by rfl, ?_⟩) (by assumption) ?_; rotate_left; focus (intro w hSw; (try dsimp only at hSw); go_simp; try with_reducible rfl); try simp only [Act.put, List.getElem_toArray, List.getElem_cons_succ, List.getElem_cons_zero, List.setIfInBounds_toArray, List.set_cons_zero, List.set_cons_succ])
  (refine wpAnyH_take (i := 9) (v := ?_) rfl (by kernel_rfl) (by kernel_rfl) (by kernel_rfl) (fun _ _ _ h => h) (Or.inl ⟨by rfl, ?_⟩) (by assumption) ?_; rotate_left; focus (intro w hSw; (try dsimp only at hSw); go_simp; try with_reducible rfl); try simp only [Act.put, List.getElem_toArray, List.getElem_cons_succ, List.getElem_cons_zero, List.setIfInBounds_toArray, List.set_cons_zero, List.set_cons_succ])
  (refine wpAnyH_take (i := 10) (v := ?_) rfl (by kernel_rfl) (by kernel_rfl) (by kernel_rfl) (fun _ _ _ h => h) (Or.inl ⟨by rfl, ?_⟩) (by assumption) ?_; rotate_left; focus (intro w hSw; (try dsimp only at hSw); go_simp; try with_reducible rfl); try simp only [Act.put, List.getElem_toArray, List.getElem_cons_succ, List.getElem_cons_zero, List.setIfInBounds_toArray, List.set_cons_zero, List.set_cons_succ])
  refine wpAnyH_done (by kernel_rfl) ?_ _
  clear hS0
  go_wp2_with fail
  refine wp_region_held_drew (S := (fun w' => w'.cell? ⟨gT, 0, none⟩ = some (.pointer (some ⟨gP, 0, none⟩)) ∧ Blk w' w.heap.size 50 f.cells)) (by kernel_rfl) ⟨HC0.out _ E2.drew, Blk.drew K3⟩ (fun hS0 => ?_)
  have E4 := E2.drew
  have K4 := Blk.drew K2
  have K5 := Blk.drew K3
  clear E2 K2 K3
  generalize V.drew = V at *
  (refine wpAnyH_take (i := 0) (v := ?_) rfl (by kernel_rfl) (by kernel_rfl) (by kernel_rfl) (fun _ _ _ h => h) (Or.inl ⟨by rfl, ?_⟩) (by assumption) ?_; rotate_left; focus (intro w hSw; (try dsimp only at hSw); go_simp; try with_reducible rfl); try simp only [Act.put, List.getElem_toArray, List.getElem_cons_succ, List.getElem_cons_zero, List.setIfInBounds_toArray, List.set_cons_zero, List.set_cons_succ])
  (refine wpAnyH_take (i := 1) (v := ?_) rfl (by kernel_rfl) (by kernel_rfl) (by kernel_rfl) (fun _ _ _ h => h) (Or.inl ⟨by rfl, ?_⟩) (by assumption) ?_; rotate_left; focus (intro w hSw; (try dsimp only at hSw); go_simp; try with_reducible rfl); try simp only [Act.put, List.getElem_toArray, List.getElem_cons_succ, List.getElem_cons_zero, List.setIfInBounds_toArray, List.set_cons_zero, List.set_cons_succ])
  (refine wpAnyH_take (i := 2) (v := ?_) rfl (by kernel_rfl) (by kernel_rfl) (by kernel_rfl) (fun _ _ _ h => h) (Or.inl ⟨by rfl, ?_⟩) (by assumption) ?_; rotate_left; focus (intro w hSw; (try dsimp only at hSw); go_simp; try with_reducible rfl); try simp only [Act.put, List.getElem_toArray, List.getElem_cons_succ, List.getElem_cons_zero, List.setIfInBounds_toArray, List.set_cons_zero, List.set_cons_succ])
  (refine wpAnyH_take (i := 3) (v := ?_) rfl (by kernel_rfl) (by kernel_rfl) (by kernel_rfl) (fun _ _ _ h => h) (Or.inl ⟨by rfl, ?_⟩) (by assumption) ?_; rotate_left; focus (intro w hSw; (try dsimp only at hSw); go_simp; try with_reducible rfl); try simp only [Act.put, List.getElem_toArray, List.getElem_cons_succ, List.getElem_cons_zero, List.setIfInBounds_toArray, List.set_cons_zero, List.set_cons_succ])
  (refine wpAnyH_take (i := 4) (v := ?_) rfl (by kernel_rfl) (by kernel_rfl) (by kernel_rfl) (fun _ _ _ h => h) (Or.inl ⟨by rfl, ?_⟩) (by assumption) ?_; rotate_left; focus (intro w hSw; (try dsimp only at hSw); go_simp; try with_reducible rfl); try simp only [Act.put, List.getElem_toArray, List.getElem_cons_succ, List.getElem_cons_zero, List.setIfInBounds_toArray, List.set_cons_zero, List.set_cons_succ])
  refine wpAnyH_take (i := 5) rfl (by kernel_rfl) (by kernel_rfl) (by kernel_rfl) (fun _ _ _ h => h) (Or.inl ⟨by rfl, fun W hS => exec_load rfl rfl (Blk.fclient hS.2)⟩) (by assumption) ?_
  (try simp only [Act.put, List.getElem_toArray, List.getElem_cons_succ, List.getElem_cons_zero, List.setIfInBounds_toArray, List.set_cons_zero, List.set_cons_succ])
  (refine wpAnyH_ready (rs := [6]) (by kernel_rfl) (by simp) ?_; refine AllReadyH.cons rfl (fun K hK => ?_) AllReadyH.nil)
  go_simp
  go_at_call 94
  refine (HTK.out _ E4).mono ?_
  rintro e V2 ⟨rfl, p2, g2⟩
  have k2 : Kp [gB] w V2 := (E4.kp [gB]).trans (Kp.ofGrown g2 (by simp))
  have K6 := K4.only g2 (by omega)
  refine hK.out _ _ ⟨(World.cell?_of_block (g2.block gT (by have := E4.size; omega) (by simp; exact hTB))).trans (HC0.out _ E4), K5.only g2 (by omega)⟩ ?_
  clear hK K K4 K5
  intro hS
  (try simp only [Act.put, List.getElem_toArray, List.getElem_cons_succ, List.getElem_cons_zero, List.setIfInBounds_toArray, List.set_cons_zero, List.set_cons_succ])
  (refine wpAnyH_take (i := 7) (v := ?_) rfl (by kernel_rfl) (by kernel_rfl) (by kernel_rfl) (fun _ _ _ h => h) (Or.inl ⟨by rfl, ?_⟩) (by assumption) ?_; rotate_left; focus (intro w hSw; (try dsimp only at hSw); go_simp; try with_reducible rfl); try simp only [Act.put, List.getElem_toArray, List.getElem_cons_succ, List.getElem_cons_zero, List.setIfInBounds_toArray, List.set_cons_zero, List.set_cons_succ])
  (refine wpAnyH_take (i := 8) (v := ?_) rfl (by kernel_rfl) (by kernel_rfl) (by kernel_rfl) (fun _ _ _ h => h) (Or.inl ⟨by rfl, ?_⟩) (by assumption) ?_; rotate_left; focus (intro w hSw; (try dsimp only at hSw); go_simp; try with_reducible rfl); try simp only [Act.put, List.getElem_toArray, List.getElem_cons_succ, List.getElem_cons_zero, List.setIfInBounds_toArray, List.set_cons_zero, List.set_cons_succ])
  (refine wpAnyH_take (i := 9) (v := ?_) rfl (by kernel_rfl) (by kernel_rfl) (by kernel_rfl) (fun _ _ _ h => h) (Or.inl ⟨by rfl, ?_⟩) (by assumption) ?_; rotate_left; focus (intro w hSw; (try dsimp only at hSw); go_simp; try with_reducible rfl); try simp only [Act.put, List.getElem_toArray, List.getElem_cons_succ, List.getElem_cons_zero, List.setIfInBounds_toArray, List.set_cons_zero, List.set_cons_succ])
  (refine wpAnyH_take (i := 10) (v := ?_) rfl (by kernel_rfl) (by kernel_rfl) (by kernel_rfl) (fun _ _ _ h => h) (Or.inl ⟨by rfl, ?_⟩) (by assumption) ?_; rotate_left; focus (intro w hSw; (try dsimp only at hSw); go_simp; try with_reducible rfl); try simp only [Act.put, List.getElem_toArray, List.getElem_cons_succ, List.getElem_cons_zero, List.setIfInBounds_toArray, List.set_cons_zero, List.set_cons_succ])
  (refine wpAnyH_take (i := 11) (v := ?_) rfl (by kernel_rfl) (by kernel_rfl) (by kernel_rfl) (fun _ _ _ h => h) (Or.inl ⟨by rfl, ?_⟩) (by assumption) ?_; rotate_left; focus (intro w hSw; (try dsimp only at hSw); go_simp; try with_reducible rfl); try simp only [Act.put, List.getElem_toArray, List.getElem_cons_succ, List.getElem_cons_zero, List.setIfInBounds_toArray, List.set_cons_zero, List.set_cons_succ])
  refine wpAnyH_done (by kernel_rfl) ?_ _
  rw [HE.out]
  have K7 := hS.2
  clear hS hS0
  have ld : (Instr.loadAt 50 (.pointer (some ⟨w.heap.size, 0, none⟩))).run Tryz.prog (V2.alloc (.cells #[.int .i64 0, .int .i64 0, .int .i64 0, .int .i64 0, .int .i64 0, .int .i64 0, .int .i64 0, .int .i64 0, .int .i64 0, .int .i64 0, .int .i64 0, .int .i64 0, .int .i64 0, .int .i64 0, .int .i64 0, .int .i64 0, .int .i64 0, .int .i64 0, .int .i64 0, .int .i64 0, .int .i64 0, .int .i64 0, .int .i64 0] 52)) = .ok (.agg #[.int .i64 f.kind, .int .i64 f.client.x0, .int .i64 f.client.x1, .int .i64 f.client.x2, .int .i64 f.client.x3, .int .i64 f.client.x4, .int .i64 f.client.x5, .int .i64 f.client.x6, .int .i64 f.client.x7, .int .i64 f.port, .int .i64 f.dst.x0, .int .i64 f.dst.x1, .int .i64 f.dst.x2, .int .i64 f.dst.x3, .int .i64 f.dst.x4, .int .i64 f.dst.x5, .int .i64 f.dst.x6, .int .i64 f.dst.x7, .int .i64 f.door]) _ := loaFl (K7.alloc _)
  have ld0 : (Instr.loadAt 50 (.pointer (some ⟨w.heap.size, 0, none⟩))).run Tryz.prog V2 = .ok (.agg #[.int .i64 f.kind, .int .i64 f.client.x0, .int .i64 f.client.x1, .int .i64 f.client.x2, .int .i64 f.client.x3, .int .i64 f.client.x4, .int .i64 f.client.x5, .int .i64 f.client.x6, .int .i64 f.client.x7, .int .i64 f.port, .int .i64 f.dst.x0, .int .i64 f.dst.x1, .int .i64 f.dst.x2, .int .i64 f.dst.x3, .int .i64 f.dst.x4, .int .i64 f.dst.x5, .int .i64 f.dst.x6, .int .i64 f.dst.x7, .int .i64 f.door]) _ := loaFl K7
  have hV2 := k2.size
  have K8 := (Blk.new V2 52 #[.int .i64 0, .int .i64 0, .int .i64 0, .int .i64 0, .int .i64 0, .int .i64 0, .int .i64 0, .int .i64 0, .int .i64 0, .int .i64 0, .int .i64 0, .int .i64 0, .int .i64 0, .int .i64 0, .int .i64 0, .int .i64 0, .int .i64 0, .int .i64 0, .int .i64 0, .int .i64 0, .int .i64 0, .int .i64 0, .int .i64 0])
  have st : (Instr.storeAt 52 (.pointer (some ⟨V2.heap.size, 0, none⟩)) (.agg #[.int .i64 f.kind, .int .i64 f.client.x0, .int .i64 f.client.x1, .int .i64 f.client.x2, .int .i64 f.client.x3, .int .i64 f.client.x4, .int .i64 f.client.x5, .int .i64 f.client.x6, .int .i64 f.client.x7, .int .i64 f.port, .int .i64 f.dst.x0, .int .i64 f.dst.x1, .int .i64 f.dst.x2, .int .i64 f.dst.x3, .int .i64 f.dst.x4, .int .i64 f.dst.x5, .int .i64 f.dst.x6, .int .i64 f.dst.x7, .int .i64 f.door, .int .i64 N, .int .i64 back, .int .i64 far, .int .i64 now])).run Tryz.prog _ = .ok () _ := stoBd K8 ⟨f, N, back, far, now⟩
  have K9 := K8.row (Bd.cells ⟨f, N, back, far, now⟩)
  have E3 : Ext V2 _ := ((Ext.refl V2).alloc (.cells #[.int .i64 0, .int .i64 0, .int .i64 0, .int .i64 0, .int .i64 0, .int .i64 0, .int .i64 0, .int .i64 0, .int .i64 0, .int .i64 0, .int .i64 0, .int .i64 0, .int .i64 0, .int .i64 0, .int .i64 0, .int .i64 0, .int .i64 0, .int .i64 0, .int .i64 0, .int .i64 0, .int .i64 0, .int .i64 0, .int .i64 0] 52)).row (k := V2.heap.size) (Nat.le_refl _) (Bd.cells ⟨f, N, back, far, now⟩)
  have HX := Lib.hid (And.intro K9 (And.intro E3 (And.intro K6 (And.intro K7 p2))))
  clear K8 K9 E3 p2
  go_wp2_with (first | ((apply load_by rfl _ _ rfl _ rfl); (focus (with_reducible assumption))) | ((apply store_by rfl _ _ _ rfl _ rfl); (focus (with_reducible assumption)); (focus rfl)))
  refine at_worldE (fun W => Blk W V2.heap.size 52 (Bd.cells ⟨f, N, back, far, now⟩) ∧ Ext V2 W) ⟨HX.out.1, HX.out.2.1⟩ ?_
  rintro W1 ⟨K9, E5⟩
  have E6 := E5.drew
  have k4 := k2.andExt E6
  have hFB : gF ∉ [gB] := by have := HH.out.apart; simp at this ⊢; omega
  have hNB : gN ∉ [gB] := by have := HH.out.apart; simp at this ⊢; omega
  have hFN : gF ≠ gN := by have := HH.out.apart; simp at this; omega
  have hTF : gT ≠ gF := by have := HH.out.apart; simp at this; omega
  have hTN : gT ≠ gN := by have := HH.out.apart; simp at this; omega
  have hFl := HH.out.flows.lt
  have hNl := HH.out.nears.lt
  have MF := HH.out.flows.kp k4 hFB
  have MN := HH.out.nears.kp k4 hNB
  have BT := HH.out.ptr.kp k4 (by simp; exact hTB)
  have B9 := Blk.drew K9
  have B7 := HX.out.2.2.2.1.ext E6
  have B6 := HX.out.2.2.1.ext E6
  have PP := HX.out.2.2.2.2.ext E6
  have HP := Lib.hid (And.intro PP (And.intro B6 k4))
  have hF : keyF.look f (l.map Te.inF) 0 = none := HN.out.1
  have hI : keyI.look N (l.map Te.inN) 0 = none := HN.out.2
  have C1 : W1.drew.cell? ⟨gT, 1, none⟩ = some (.map (some gF)) := BT.cells 1
  have C2 : W1.drew.cell? ⟨gT, 2, none⟩ = some (.map (some gN)) := BT.cells 2
  refine wp_region_held_drew (S := (fun w' => w'.cell? ⟨gT, 1, none⟩ = some (.map (some gF)) ∧ w'.cell? ⟨gT, 2, none⟩ = some (.map (some gN)) ∧ Blk w' w.heap.size 50 f.cells ∧ Blk w' V2.heap.size 52 (Bd.cells ⟨f, N, back, far, now⟩))) (by kernel_rfl) ⟨C1, C2, B7, B9⟩ (fun hS0 => ?_)
  have hV2l := E6.size
  have hVg : ∀ g, g < w.heap.size → ∀ {a b : World} {S : List Nat}, Kp S a b → V2.heap.size ≤ a.heap.size → g ∉ S → b.heap[g]? = a.heap[g]? := fun g hg a b S k ha hn => k.block g (by omega) hn
  clear st ld ld0 K9 K6 K7 HX PP B6 k4 k2 E6 E5
  generalize W1.drew = V at *
  have hgF : gF ≠ V2.heap.size := by omega
  have hgN : gN ≠ V2.heap.size := by omega
  have hgF' : gF ≠ w.heap.size := by omega
  have hgN' : gN ≠ w.heap.size := by omega
  (refine wpAnyH_take (i := 0) (v := ?_) rfl (by kernel_rfl) (by kernel_rfl) (by kernel_rfl) (fun _ _ _ h => h) (Or.inl ⟨by rfl, ?_⟩) (by assumption) ?_; rotate_left; focus (intro w hSw; (try dsimp only at hSw); go_simp; try with_reducible rfl); try simp only [Act.put, List.getElem_toArray, List.getElem_cons_succ, List.getElem_cons_zero, List.setIfInBounds_toArray, List.set_cons_zero, List.set_cons_succ])
  (refine wpAnyH_take (i := 1) (v := ?_) rfl (by kernel_rfl) (by kernel_rfl) (by kernel_rfl) (fun _ _ _ h => h) (Or.inl ⟨by rfl, ?_⟩) (by assumption) ?_; rotate_left; focus (intro w hSw; (try dsimp only at hSw); go_simp; try with_reducible rfl); try simp only [Act.put, List.getElem_toArray, List.getElem_cons_succ, List.getElem_cons_zero, List.setIfInBounds_toArray, List.set_cons_zero, List.set_cons_succ])
  (refine wpAnyH_take (i := 2) (v := ?_) rfl (by kernel_rfl) (by kernel_rfl) (by kernel_rfl) (fun _ _ _ h => h) (Or.inl ⟨by rfl, ?_⟩) (by assumption) ?_; rotate_left; focus (intro w hSw; (try dsimp only at hSw); go_simp; try with_reducible rfl); try simp only [Act.put, List.getElem_toArray, List.getElem_cons_succ, List.getElem_cons_zero, List.setIfInBounds_toArray, List.set_cons_zero, List.set_cons_succ])
  (refine wpAnyH_take (i := 3) (v := ?_) rfl (by kernel_rfl) (by kernel_rfl) (by kernel_rfl) (fun _ _ _ h => h) (Or.inl ⟨by rfl, ?_⟩) (by assumption) ?_; rotate_left; focus (intro w hSw; (try dsimp only at hSw); go_simp; try with_reducible rfl); try simp only [Act.put, List.getElem_toArray, List.getElem_cons_succ, List.getElem_cons_zero, List.setIfInBounds_toArray, List.set_cons_zero, List.set_cons_succ])
  refine wpAnyH_take (i := 4) rfl (by kernel_rfl) (by kernel_rfl) (by kernel_rfl) (fun _ _ _ h => h) (Or.inl ⟨by rfl, fun W hS => exec_load rfl rfl (loaFl hS.2.2.1)⟩) (by assumption) ?_
  (try simp only [Act.put, List.getElem_toArray, List.getElem_cons_succ, List.getElem_cons_zero, List.setIfInBounds_toArray, List.set_cons_zero, List.set_cons_succ])
  (refine wpAnyH_take (i := 5) (v := ?_) rfl (by kernel_rfl) (by kernel_rfl) (by kernel_rfl) (fun _ _ _ h => h) (Or.inl ⟨by rfl, ?_⟩) (by assumption) ?_; rotate_left; focus (intro w hSw; (try dsimp only at hSw); go_simp; try with_reducible rfl); try simp only [Act.put, List.getElem_toArray, List.getElem_cons_succ, List.getElem_cons_zero, List.setIfInBounds_toArray, List.set_cons_zero, List.set_cons_succ])
  (refine wpAnyH_take (i := 6) (v := ?_) rfl (by kernel_rfl) (by kernel_rfl) (by kernel_rfl) (fun _ _ _ h => h) (Or.inl ⟨by rfl, ?_⟩) (by assumption) ?_; rotate_left; focus (intro w hSw; (try dsimp only at hSw); go_simp; try with_reducible rfl); try simp only [Act.put, List.getElem_toArray, List.getElem_cons_succ, List.getElem_cons_zero, List.setIfInBounds_toArray, List.set_cons_zero, List.set_cons_succ])
  (refine wpAnyH_take (i := 7) (v := ?_) rfl (by kernel_rfl) (by kernel_rfl) (by kernel_rfl) (fun _ _ _ h => h) (Or.inl ⟨by rfl, ?_⟩) (by assumption) ?_; rotate_left; focus (intro w hSw; (try dsimp only at hSw); go_simp; try with_reducible rfl); try simp only [Act.put, List.getElem_toArray, List.getElem_cons_succ, List.getElem_cons_zero, List.setIfInBounds_toArray, List.set_cons_zero, List.set_cons_succ])
  (refine wpAnyH_take (i := 8) (v := ?_) rfl (by kernel_rfl) (by kernel_rfl) (by kernel_rfl) (fun _ _ _ h => h) (Or.inl ⟨by rfl, ?_⟩) (by assumption) ?_; rotate_left; focus (intro w hSw; (try dsimp only at hSw); go_simp; try with_reducible rfl); try simp only [Act.put, List.getElem_toArray, List.getElem_cons_succ, List.getElem_cons_zero, List.setIfInBounds_toArray, List.set_cons_zero, List.set_cons_succ])
  (refine wpAnyH_take (i := 9) (v := ?_) rfl (by kernel_rfl) (by kernel_rfl) (by kernel_rfl) (fun _ _ _ h => h) (Or.inl ⟨by rfl, ?_⟩) (by assumption) ?_; rotate_left; focus (intro w hSw; (try dsimp only at hSw); go_simp; try with_reducible rfl); try simp only [Act.put, List.getElem_toArray, List.getElem_cons_succ, List.getElem_cons_zero, List.setIfInBounds_toArray, List.set_cons_zero, List.set_cons_succ])
  (refine wpAnyH_take (i := 10) (v := ?_) rfl (by kernel_rfl) (by kernel_rfl) (by kernel_rfl) (fun _ _ _ h => h) (Or.inl ⟨by rfl, ?_⟩) (by assumption) ?_; rotate_left; focus (intro w hSw; (try dsimp only at hSw); go_simp; try with_reducible rfl); try simp only [Act.put, List.getElem_toArray, List.getElem_cons_succ, List.getElem_cons_zero, List.setIfInBounds_toArray, List.set_cons_zero, List.set_cons_succ])
  refine wpAnyH_take (i := 11) rfl (by kernel_rfl) (by kernel_rfl) (by kernel_rfl) (fun _ _ _ h => h) (Or.inl ⟨by rfl, fun W hS => exec_load rfl rfl (loaBd hS.2.2.2)⟩) (by assumption) ?_
  (try simp only [Act.put, List.getElem_toArray, List.getElem_cons_succ, List.getElem_cons_zero, List.setIfInBounds_toArray, List.set_cons_zero, List.set_cons_succ])
  have hS1 := hS0
  (refine wpAnyH_ready (rs := [12]) (by kernel_rfl) (by simp) ?_; refine AllReadyH.cons rfl (fun K hK => ?_) AllReadyH.nil)
  have hu1 : (Instr.mapEntry 114 (.map (some gF)) (.agg f.cells)).run Tryz.prog V = .ok (.tuple #[.int .i64 0, .int .i64 (cF : Int)]) _ := MF.entry keyF_finds 114 3 Tryz.underlying114 (.int .i64 0) (by kernel_rfl) f hF
  go_simp
  have M1 := MF.put (l.map Te.inF ++ [⟨f, .int .i64 0, cF⟩]) (cF + 1) (fun x hx => by
    rcases List.mem_append.1 hx with hx | hx
    · have := MF.old x hx; omega
    · simp at hx; subst hx; exact Nat.lt_succ_self _)
  have kI0 : Kp [gF] V (putMap keyF V gF (l.map Te.inF ++ [⟨f, .int .i64 0, cF⟩]) (cF + 1)) := (Kp.refl _ V).put (by simp) _ _
  have MN1 := MN.kp kI0 (by simp; exact fun e => hFN e.symm)
  clear kI0
  have kk : Kp [gF, gN] V (putMap keyF V gF (l.map Te.inF ++ [⟨f, .int .i64 0, cF⟩]) (cF + 1)) := (Kp.refl _ V).put (by simp) _ _
  refine hK.out _ _ ⟨(World.cell?_of_block (putMap_other keyF V gF _ _ hTF)).trans hS1.1, (World.cell?_of_block (putMap_other keyF V gF _ _ hTF)).trans hS1.2.1, hS1.2.2.1.kp kk (by simp; omega), hS1.2.2.2.kp kk (by simp; omega)⟩ ?_
  clear hK K hu1
  intro hS2
  generalize putMap keyF V gF (l.map Te.inF ++ [⟨f, .int .i64 0, cF⟩]) (cF + 1) = U1 at *
  (try simp only [Act.put, List.getElem_toArray, List.getElem_cons_succ, List.getElem_cons_zero, List.setIfInBounds_toArray, List.set_cons_zero, List.set_cons_succ])
  (refine wpAnyH_take (i := 13) (v := ?_) rfl (by kernel_rfl) (by kernel_rfl) (by kernel_rfl) (fun _ _ _ h => h) (Or.inl ⟨by rfl, ?_⟩) (by assumption) ?_; rotate_left; focus (intro w hSw; (try dsimp only at hSw); go_simp; try with_reducible rfl); try simp only [Act.put, List.getElem_toArray, List.getElem_cons_succ, List.getElem_cons_zero, List.setIfInBounds_toArray, List.set_cons_zero, List.set_cons_succ])
  (refine wpAnyH_ready (rs := [14]) (by kernel_rfl) (by simp) ?_; refine AllReadyH.cons rfl (fun K hK => ?_) AllReadyH.nil)
  have hu2 : (Instr.entryStore 114 (.map (some gF)) (.int .i64 (cF : Int)) (.int .i64 N)).run Tryz.prog U1 = .ok () _ := M1.fill MF.old 114 (.int .i64 N)
  go_simp
  have M2 := M1.put (l.map Te.inF ++ [⟨f, .int .i64 N, cF⟩]) (cF + 1) (fun x hx => by
    rcases List.mem_append.1 hx with hx | hx
    · have := MF.old x hx; omega
    · simp at hx; subst hx; exact Nat.lt_succ_self _)
  have kj : Kp [gF, gN] U1 (putMap keyF U1 gF (l.map Te.inF ++ [⟨f, .int .i64 N, cF⟩]) (cF + 1)) := (Kp.refl _ U1).put (by simp) _ _
  have kI : Kp [gF] U1 (putMap keyF U1 gF (l.map Te.inF ++ [⟨f, .int .i64 N, cF⟩]) (cF + 1)) := (Kp.refl _ U1).put (by simp) _ _
  refine hK.out _ _ ⟨(World.cell?_of_block (putMap_other keyF U1 gF _ _ hTF)).trans hS2.1, (World.cell?_of_block (putMap_other keyF U1 gF _ _ hTF)).trans hS2.2.1, hS2.2.2.1.kp kj (by simp; omega), hS2.2.2.2.kp kj (by simp; omega)⟩ ?_
  clear hK K hu2
  intro hS3
  replace kk := kk.trans kj
  have N2 := (MN1.kp kI (by simp; exact fun e => hFN e.symm))
  clear kj kI MN1
  generalize putMap keyF U1 gF (l.map Te.inF ++ [⟨f, .int .i64 N, cF⟩]) (cF + 1) = U2 at *
  (try simp only [Act.put, List.getElem_toArray, List.getElem_cons_succ, List.getElem_cons_zero, List.setIfInBounds_toArray, List.set_cons_zero, List.set_cons_succ])
  (refine wpAnyH_ready (rs := [15]) (by kernel_rfl) (by simp) ?_; refine AllReadyH.cons rfl (fun K hK => ?_) AllReadyH.nil)
  have hu3 : (Instr.mapEntry 115 (.map (some gN)) (.int .i64 N)).run Tryz.prog U2 = .ok (.tuple #[zeroBd.v, .int .i64 (cN : Int)]) _ := N2.entry keyI_finds 115 52 Tryz.underlying115 zeroBd.v (zero_bind U2) N hI
  go_simp
  have N3 := N2.put (l.map Te.inN ++ [⟨N, zeroBd.v, cN⟩]) (cN + 1) (fun x hx => by
    rcases List.mem_append.1 hx with hx | hx
    · have := N2.old x hx; omega
    · simp at hx; subst hx; exact Nat.lt_succ_self _)
  have kj : Kp [gF, gN] U2 (putMap keyI U2 gN (l.map Te.inN ++ [⟨N, zeroBd.v, cN⟩]) (cN + 1)) := (Kp.refl _ U2).put (by simp) _ _
  have kI : Kp [gN] U2 (putMap keyI U2 gN (l.map Te.inN ++ [⟨N, zeroBd.v, cN⟩]) (cN + 1)) := (Kp.refl _ U2).put (by simp) _ _
  refine hK.out _ _ ⟨(World.cell?_of_block (putMap_other keyI U2 gN _ _ hTN)).trans hS3.1, (World.cell?_of_block (putMap_other keyI U2 gN _ _ hTN)).trans hS3.2.1, hS3.2.2.1.kp kj (by simp; omega), hS3.2.2.2.kp kj (by simp; omega)⟩ ?_
  clear hK K hu3
  intro hS4
  replace kk := kk.trans kj
  have M3 := M2.kp kI (by simp; exact hFN)
  clear kj kI M2
  generalize putMap keyI U2 gN (l.map Te.inN ++ [⟨N, zeroBd.v, cN⟩]) (cN + 1) = U3 at *
  (try simp only [Act.put, List.getElem_toArray, List.getElem_cons_succ, List.getElem_cons_zero, List.setIfInBounds_toArray, List.set_cons_zero, List.set_cons_succ])
  (refine wpAnyH_take (i := 16) (v := ?_) rfl (by kernel_rfl) (by kernel_rfl) (by kernel_rfl) (fun _ _ _ h => h) (Or.inl ⟨by rfl, ?_⟩) (by assumption) ?_; rotate_left; focus (intro w hSw; (try dsimp only at hSw); go_simp; try with_reducible rfl); try simp only [Act.put, List.getElem_toArray, List.getElem_cons_succ, List.getElem_cons_zero, List.setIfInBounds_toArray, List.set_cons_zero, List.set_cons_succ])
  (refine wpAnyH_ready (rs := [17]) (by kernel_rfl) (by simp) ?_; refine AllReadyH.cons rfl (fun K hK => ?_) AllReadyH.nil)
  have hu4 : (Instr.entryStore 115 (.map (some gN)) (.int .i64 (cN : Int)) (.agg (Bd.cells ⟨f, N, back, far, now⟩))).run Tryz.prog U3 = .ok () _ := N3.fill N2.old 115 (.agg (Bd.cells ⟨f, N, back, far, now⟩))
  go_simp
  have N4 := N3.put (l.map Te.inN ++ [⟨N, .agg (Bd.cells ⟨f, N, back, far, now⟩), cN⟩]) (cN + 1) (fun x hx => by
    rcases List.mem_append.1 hx with hx | hx
    · have := N2.old x hx; omega
    · simp at hx; subst hx; exact Nat.lt_succ_self _)
  have kj : Kp [gF, gN] U3 (putMap keyI U3 gN (l.map Te.inN ++ [⟨N, .agg (Bd.cells ⟨f, N, back, far, now⟩), cN⟩]) (cN + 1)) := (Kp.refl _ U3).put (by simp) _ _
  have kI : Kp [gN] U3 (putMap keyI U3 gN (l.map Te.inN ++ [⟨N, .agg (Bd.cells ⟨f, N, back, far, now⟩), cN⟩]) (cN + 1)) := (Kp.refl _ U3).put (by simp) _ _
  refine hK.out _ _ ⟨(World.cell?_of_block (putMap_other keyI U3 gN _ _ hTN)).trans hS4.1, (World.cell?_of_block (putMap_other keyI U3 gN _ _ hTN)).trans hS4.2.1, hS4.2.2.1.kp kj (by simp; omega), hS4.2.2.2.kp kj (by simp; omega)⟩ ?_
  clear hK K hu4
  intro hS5
  replace kk := kk.trans kj
  have M4 := M3.kp kI (by simp; exact hFN)
  clear kj kI M3 hS4 hS3 hS2 hS1 hS0 N2 N3
  generalize putMap keyI U3 gN (l.map Te.inN ++ [⟨N, .agg (Bd.cells ⟨f, N, back, far, now⟩), cN⟩]) (cN + 1) = U4 at *
  (try simp only [Act.put, List.getElem_toArray, List.getElem_cons_succ, List.getElem_cons_zero, List.setIfInBounds_toArray, List.set_cons_zero, List.set_cons_succ])
  refine wpAnyH_done (by kernel_rfl) ?_ _
  have ld := loaBd hS5.2.2.2
  have B6 := HP.out.2.1.kp kk (by simp; omega)
  have st := stoBd B6 ⟨f, N, back, far, now⟩
  have KF := B6.row (Bd.cells ⟨f, N, back, far, now⟩)
  have HE := Lib.hid (And.intro hS5 (And.intro M4 (And.intro N4 (And.intro kk (And.intro MF BT)))))
  clear B6 hS5 M4 N4 kk MF MN BT C1 C2 B7 B9
  go_wp2_with (first | ((apply load_by rfl _ _ rfl _ rfl); (focus (with_reducible assumption))) | ((apply store_by rfl _ _ _ rfl _ rfl); (focus (with_reducible assumption)); (focus rfl)))
  refine bodyPost_ret (results_cell2 Tryz.results68 _ _ (w.heap.size + 1) 52 (Bd.cells ⟨f, N, back, far, now⟩) _ rfl KF Tryz.underlying52 rfl Tryz.sizeBd) rfl ⟨rfl, ?_, ?_⟩
  · have k5 := (HP.out.2.2.mono (T := [gB, gF, gN]) (fun g hg => by simp at hg ⊢; exact .inl hg)).trans (HE.out.2.2.2.1.mono (T := [gB, gF, gN]) (fun g hg => by simp at hg ⊢; exact .inr hg))
    exact k5.row (Nat.le_succ _) _
  · have PQ := HP.out.1.kp HE.out.2.2.2.1 (by have := HH.out.apart; simp at this ⊢; omega) (by have := HH.out.apart; simp at this ⊢; omega)
    have BQ := HE.out.2.2.2.2.2.kp HE.out.2.2.2.1 (by simp; exact ⟨hTF, hTN⟩)
    refine ⟨BQ.farRow (by omega) _, PQ.farRow (by omega) (by omega) _, ?_, ?_, HH.out.apart⟩
    · rw [List.map_append]
      exact HE.out.2.1.farRow (by omega) _
    · rw [List.map_append]
      exact HE.out.2.2.1.farRow (by omega) _
end Go.Proofs.YtbjogkpepfgegaaGreatDoor
