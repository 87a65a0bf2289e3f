/- What gate.where hands back; gate.headed. Conditions: as each lemma states them. -/
import Derived.Test.YtbjogkpepfgegaaGreatDoorK37
import Derived.Test.YtbjogkpepfgegaaGreatDoorK27
import Derived.Test.YtbjogkpepfgegaaGreatDoorK10
namespace Go.Proofs.YtbjogkpepfgegaaGreatDoor
open Go.RowKit
theorem Tryz.sizeBk : (Tryz.prog.info? 34).map (·.size) = some 6 := by kernel_rfl
theorem stoBk {w : World} {R : Nat} (k : Blk w R 34 #[.int .i64 0, .int .i64 0, .int .i64 0, .int .i64 0, .bool false, .bool false]) (x : Pl.Back) :
    (Instr.storeAt 34 (.pointer (some ⟨R, 0, none⟩)) (.agg #[.int .i64 x.id, .int .i64 x.addr, .int .i64 x.door, .int .i64 x.weight, .bool x.up, .bool x.drain])).run Tryz.prog w = .ok () (w.setRow R #[.int .i64 x.id, .int .i64 x.addr, .int .i64 x.door, .int .i64 x.weight, .bool x.up, .bool x.drain]) := k.store rfl Tryz.sizeBk (by simp [Value.oneCell'])
set_option maxRecDepth 100000 in
set_option maxHeartbeats 2000000 in
theorem lead1_any (G : GG) (c : Cfg) (bs : List Pl.Back) (s : PS) (B : List Bd) (now : Int) (f : Flow) (b : Nat) (w : World) (h : GW w G c bs s B now) (hok : CfgOk c bs) (hf : f.Ok) (K : Blk w b 28 #[.pointer (some ⟨G.g, 0, none⟩)]) :
    Calls Tryz.prog 63 #[f.v, .pointer (some ⟨b, 0, none⟩)] w fun e w' => e = .returned (.tuple #[.int .i64 ((Pl.best (Pl.worth c.seed f) bs).getD Pl.back0).addr, .int .i64 ((Pl.best (Pl.worth c.seed f) bs).getD Pl.back0).door, erv (if (Pl.best (Pl.worth c.seed f) bs).isSome = true then 0 else 4)]) ∧ Ext w w' := by
  have K1 := Blk.new w 50 f.cells
  have E0 := (Ext.refl w).alloc (.cells f.cells 50)
  obtain ⟨a, n, cap, hbv, hnc, hbk⟩ := h.bks.read
  have HP := Lib.hid (fun w' (E : Ext w w') => (show Calls Tryz.prog 64 #[.int .i64 c.seed, f.v, G.bv] w' fun e w'' => e = .returned (.tuple #[backv ((Pl.best (Pl.worth c.seed f) bs).getD Pl.back0), erv (if (Pl.best (Pl.worth c.seed f) bs).isSome = true then 0 else 4)]) ∧ Ext w' w'' from by
    rw [hbv]
    refine (pick_ok c.seed f a n cap bs w' (hbk.ext E) hnc hok.bks hok.seed hf).mono ?_
    rintro e w'' ⟨hr | ⟨x, hx, rfl⟩, q⟩
    · obtain ⟨h0, rfl⟩ := hr
      rw [h0]
      exact ⟨rfl, q⟩
    · rw [hx]
      exact ⟨rfl, q⟩))
  have HG := Lib.hid (fun w' (E : Ext w w') => h.ext E)
  have HK := Lib.hid (fun w' (E : Ext w w') => K.ext E)
  clear h hok hf K hbv hnc hbk
  generalize (Pl.best (Pl.worth c.seed f) bs).getD Pl.back0 = X at *
  generalize (if (Pl.best (Pl.worth c.seed f) bs).isSome = true then (0 : Int) else 4) = Q at *
  go_enter Tryz.func63, Tryz.ntmps63
  go_upto_region 1 with (fail)
  refine at_worldE (fun W => Ext w W ∧ Blk W w.heap.size 50 f.cells) ⟨E0, K1⟩ ?_
  clear E0 K1
  rintro W1 ⟨E1, K1⟩
  replace HP := Lib.hid (fun V (E : Ext W1 V) => HP.out V (E1.trans E))
  have HS := Lib.hid (fun V (E : Ext W1 V) => (show V.cell? ⟨b, 0, none⟩ = some (.pointer (some ⟨G.g, 0, none⟩)) ∧ Blk V w.heap.size 50 f.cells ∧ V.cell? ⟨G.g, 19, none⟩ = some (.int .i64 c.seed) ∧ V.cell? ⟨G.g, 22, none⟩ = some G.bv from ⟨(HK.out V (E1.trans E)).cells 0, K1.ext E, (HG.out V (E1.trans E)).nums.2.2.2.1, (HG.out V (E1.trans E)).nums.2.2.2.2.2.1⟩))
  have D0 : Ext W1 W1.drew := (Ext.refl W1).drew
  go_cut [6, 7] (fun p er wc => ∃ g, p = .pointer (some ⟨g, 0, none⟩) ∧ er = erv Q ∧ Blk wc g 34 #[.int .i64 X.id, .int .i64 X.addr, .int .i64 X.door, .int .i64 X.weight, .bool X.up, .bool X.drain] ∧ Ext W1 wc)
  case first =>
    have HS0 := HS.out _ D0
    refine wp_region_held_drew (S := (fun V => V.cell? ⟨b, 0, none⟩ = some (.pointer (some ⟨G.g, 0, none⟩)) ∧ Blk V w.heap.size 50 f.cells ∧ V.cell? ⟨G.g, 19, none⟩ = some (.int .i64 c.seed) ∧ V.cell? ⟨G.g, 22, none⟩ = some G.bv)) (by kernel_rfl) HS0 (fun hS0 => ?_)
    clear HS0
    have D1 := D0
    generalize W1.drew = V1 at *
    (refine wpAnyH_take (i := 0) (v := ?_) rfl (by kernel_rfl) (by kernel_rfl) (by kernel_rfl) (fun _ _ _ h => h) (Or.inl ⟨by rfl, ?_⟩) (by assumption) ?_; rotate_left; focus (intro w hSw; (try dsimp only at hSw); go_simp; try with_reducible rfl); try simp only [Act.put, List.getElem_toArray, List.getElem_cons_succ, List.getElem_cons_zero, List.setIfInBounds_toArray, List.set_cons_zero, List.set_cons_succ])
    (refine wpAnyH_take (i := 1) (v := ?_) rfl (by kernel_rfl) (by kernel_rfl) (by kernel_rfl) (fun _ _ _ h => h) (Or.inl ⟨by rfl, ?_⟩) (by assumption) ?_; rotate_left; focus (intro w hSw; (try dsimp only at hSw); go_simp; try with_reducible rfl); try simp only [Act.put, List.getElem_toArray, List.getElem_cons_succ, List.getElem_cons_zero, List.setIfInBounds_toArray, List.set_cons_zero, List.set_cons_succ])
    (refine wpAnyH_take (i := 2) (v := ?_) rfl (by kernel_rfl) (by kernel_rfl) (by kernel_rfl) (fun _ _ _ h => h) (Or.inl ⟨by rfl, ?_⟩) (by assumption) ?_; rotate_left; focus (intro w hSw; (try dsimp only at hSw); go_simp; try with_reducible rfl); try simp only [Act.put, List.getElem_toArray, List.getElem_cons_succ, List.getElem_cons_zero, List.setIfInBounds_toArray, List.set_cons_zero, List.set_cons_succ])
    (refine wpAnyH_take (i := 3) (v := ?_) rfl (by kernel_rfl) (by kernel_rfl) (by kernel_rfl) (fun _ _ _ h => h) (Or.inl ⟨by rfl, ?_⟩) (by assumption) ?_; rotate_left; focus (intro w hSw; (try dsimp only at hSw); go_simp; try with_reducible rfl); try simp only [Act.put, List.getElem_toArray, List.getElem_cons_succ, List.getElem_cons_zero, List.setIfInBounds_toArray, List.set_cons_zero, List.set_cons_succ])
    (refine wpAnyH_take (i := 4) (v := ?_) rfl (by kernel_rfl) (by kernel_rfl) (by kernel_rfl) (fun _ _ _ h => h) (Or.inl ⟨by rfl, ?_⟩) (by assumption) ?_; rotate_left; focus (intro w hSw; (try dsimp only at hSw); go_simp; try with_reducible rfl); try simp only [Act.put, List.getElem_toArray, List.getElem_cons_succ, List.getElem_cons_zero, List.setIfInBounds_toArray, List.set_cons_zero, List.set_cons_succ])
    refine wpAnyH_take (i := 5) rfl (by kernel_rfl) (by kernel_rfl) (by kernel_rfl) (fun _ _ _ h => h) (Or.inl ⟨by rfl, fun W hS => exec_load rfl rfl (loaFl hS.2.1)⟩) (by assumption) ?_
    (try simp only [Act.put, List.getElem_toArray, List.getElem_cons_succ, List.getElem_cons_zero, List.setIfInBounds_toArray, List.set_cons_zero, List.set_cons_succ])
    (refine wpAnyH_take (i := 6) (v := ?_) rfl (by kernel_rfl) (by kernel_rfl) (by kernel_rfl) (fun _ _ _ h => h) (Or.inl ⟨by rfl, ?_⟩) (by assumption) ?_; rotate_left; focus (intro w hSw; (try dsimp only at hSw); go_simp; try with_reducible rfl); try simp only [Act.put, List.getElem_toArray, List.getElem_cons_succ, List.getElem_cons_zero, List.setIfInBounds_toArray, List.set_cons_zero, List.set_cons_succ])
    (refine wpAnyH_take (i := 7) (v := ?_) rfl (by kernel_rfl) (by kernel_rfl) (by kernel_rfl) (fun _ _ _ h => h) (Or.inl ⟨by rfl, ?_⟩) (by assumption) ?_; rotate_left; focus (intro w hSw; (try dsimp only at hSw); go_simp; try with_reducible rfl); try simp only [Act.put, List.getElem_toArray, List.getElem_cons_succ, List.getElem_cons_zero, List.setIfInBounds_toArray, List.set_cons_zero, List.set_cons_succ])
    (refine wpAnyH_take (i := 8) (v := ?_) rfl (by kernel_rfl) (by kernel_rfl) (by kernel_rfl) (fun _ _ _ h => h) (Or.inl ⟨by rfl, ?_⟩) (by assumption) ?_; rotate_left; focus (intro w hSw; (try dsimp only at hSw); go_simp; try with_reducible rfl); try simp only [Act.put, List.getElem_toArray, List.getElem_cons_succ, List.getElem_cons_zero, List.setIfInBounds_toArray, List.set_cons_zero, List.set_cons_succ])
    (refine wpAnyH_take (i := 9) (v := ?_) rfl (by kernel_rfl) (by kernel_rfl) (by kernel_rfl) (fun _ _ _ h => h) (Or.inl ⟨by rfl, ?_⟩) (by assumption) ?_; rotate_left; focus (intro w hSw; (try dsimp only at hSw); go_simp; try with_reducible rfl); try simp only [Act.put, List.getElem_toArray, List.getElem_cons_succ, List.getElem_cons_zero, List.setIfInBounds_toArray, List.set_cons_zero, List.set_cons_succ])
    (refine wpAnyH_take (i := 10) (v := ?_) rfl (by kernel_rfl) (by kernel_rfl) (by kernel_rfl) (fun _ _ _ h => h) (Or.inl ⟨by rfl, ?_⟩) (by assumption) ?_; rotate_left; focus (intro w hSw; (try dsimp only at hSw); go_simp; try with_reducible rfl); try simp only [Act.put, List.getElem_toArray, List.getElem_cons_succ, List.getElem_cons_zero, List.setIfInBounds_toArray, List.set_cons_zero, List.set_cons_succ])
    (try simp only [Act.put, List.getElem_toArray, List.getElem_cons_succ, List.getElem_cons_zero, List.setIfInBounds_toArray, List.set_cons_zero, List.set_cons_succ])
    refine wpAnyH_ready (rs := [11, 15]) (by kernel_rfl) (by simp) ?_
    refine AllReadyH.cons rfl (fun K hK => ?_) (AllReadyH.cons rfl (fun K hK => ?_) AllReadyH.nil)
    · go_simp
      go_at_call 64
      refine (HP.out V1 D1).mono ?_
      rintro e V2 ⟨rfl, q⟩
      have D2 := D1.trans q
      refine hK.out _ _ (HS.out _ D2) ?_
      clear hK K
      intro hS1
      (try simp only [Act.put, List.getElem_toArray, List.getElem_cons_succ, List.getElem_cons_zero, List.setIfInBounds_toArray, List.set_cons_zero, List.set_cons_succ])
      (refine wpAnyH_take (i := 12) (v := ?_) rfl (by kernel_rfl) (by kernel_rfl) (by kernel_rfl) (fun _ _ _ h => h) (Or.inl ⟨by rfl, ?_⟩) (by assumption) ?_; rotate_left; focus (intro w hSw; (try dsimp only at hSw); go_simp; try with_reducible rfl); try simp only [Act.put, List.getElem_toArray, List.getElem_cons_succ, List.getElem_cons_zero, List.setIfInBounds_toArray, List.set_cons_zero, List.set_cons_succ])
      (refine wpAnyH_take (i := 13) (v := ?_) rfl (by kernel_rfl) (by kernel_rfl) (by kernel_rfl) (fun _ _ _ h => h) (Or.inl ⟨by rfl, ?_⟩) (by assumption) ?_; rotate_left; focus (intro w hSw; (try dsimp only at hSw); go_simp; try with_reducible rfl); try simp only [Act.put, List.getElem_toArray, List.getElem_cons_succ, List.getElem_cons_zero, List.setIfInBounds_toArray, List.set_cons_zero, List.set_cons_succ])
      (refine wpAnyH_take (i := 14) (v := ?_) rfl (by kernel_rfl) (by kernel_rfl) (by kernel_rfl) (fun _ _ _ h => h) (Or.inl ⟨by rfl, ?_⟩) (by assumption) ?_; rotate_left; focus (intro w hSw; (try dsimp only at hSw); go_simp; try with_reducible rfl); try simp only [Act.put, List.getElem_toArray, List.getElem_cons_succ, List.getElem_cons_zero, List.setIfInBounds_toArray, List.set_cons_zero, List.set_cons_succ])
      (refine wpAnyH_ready (rs := [15]) (by kernel_rfl) (by simp) ?_; refine AllReadyH.cons rfl (fun K hK => ?_) AllReadyH.nil)
      go_simp
      have KG := Blk.new V2 34 #[.int .i64 0, .int .i64 0, .int .i64 0, .int .i64 0, .bool false, .bool false]
      have D3 := D2.alloc (.cells #[.int .i64 0, .int .i64 0, .int .i64 0, .int .i64 0, .bool false, .bool false] 34)
      have hge : W1.heap.size ≤ V2.heap.size := D2.size
      refine hK.out _ _ (HS.out _ D3) ?_
      clear hK K
      intro hS2
      clear D2
      generalize V2.alloc (.cells #[.int .i64 0, .int .i64 0, .int .i64 0, .int .i64 0, .bool false, .bool false] 34) = V3 at *
      generalize V2.heap.size = g at *
      (try simp only [Act.put, List.getElem_toArray, List.getElem_cons_succ, List.getElem_cons_zero, List.setIfInBounds_toArray, List.set_cons_zero, List.set_cons_succ])
      (refine wpAnyH_ready (rs := [16]) (by kernel_rfl) (by simp) ?_; refine AllReadyH.cons rfl (fun K hK => ?_) AllReadyH.nil)
      rw [if_pos (by rfl)]
      refine wp_store_at _ _ _ rfl _ rfl (stoBk KG X) rfl ?_
      have KH := KG.row #[.int .i64 X.id, .int .i64 X.addr, .int .i64 X.door, .int .i64 X.weight, .bool X.up, .bool X.drain]
      have D9 := D3.row hge #[.int .i64 X.id, .int .i64 X.addr, .int .i64 X.door, .int .i64 X.weight, .bool X.up, .bool X.drain]
      refine hK.out _ _ (HS.out _ D9) ?_
      clear hK K
      intro hS3
      (try simp only [Act.put, List.getElem_toArray, List.getElem_cons_succ, List.getElem_cons_zero])
      (refine wpAnyH_take (i := 17) (v := ?_) rfl (by kernel_rfl) (by kernel_rfl) (by kernel_rfl) (fun _ _ _ h => h) (Or.inl ⟨by rfl, ?_⟩) (by assumption) ?_; rotate_left; focus (intro w hSw; (try dsimp only at hSw); go_simp; try with_reducible rfl); try simp only [Act.put, List.getElem_toArray, List.getElem_cons_succ, List.getElem_cons_zero, List.setIfInBounds_toArray, List.set_cons_zero, List.set_cons_succ])
      (try simp only [Act.put, List.getElem_toArray, List.getElem_cons_succ, List.getElem_cons_zero, List.setIfInBounds_toArray, List.set_cons_zero, List.set_cons_succ])
      refine wpAnyH_done (by kernel_rfl) ?_ _
      go_wp2_with fail
      go_meet
      exact ⟨g, rfl, rfl, KH, D9⟩
    · go_simp
      have KG := Blk.new V1 34 #[.int .i64 0, .int .i64 0, .int .i64 0, .int .i64 0, .bool false, .bool false]
      have D2 := D1.alloc (.cells #[.int .i64 0, .int .i64 0, .int .i64 0, .int .i64 0, .bool false, .bool false] 34)
      have hge : W1.heap.size ≤ V1.heap.size := D1.size
      refine hK.out _ _ (HS.out _ D2) ?_
      clear hK K
      intro hS2
      clear D1
      generalize V1.alloc (.cells #[.int .i64 0, .int .i64 0, .int .i64 0, .int .i64 0, .bool false, .bool false] 34) = V2 at *
      generalize V1.heap.size = g at *
      (try simp only [Act.put, List.getElem_toArray, List.getElem_cons_succ, List.getElem_cons_zero, List.setIfInBounds_toArray, List.set_cons_zero, List.set_cons_succ])
      (refine wpAnyH_ready (rs := [11]) (by kernel_rfl) (by simp) ?_; refine AllReadyH.cons rfl (fun K hK => ?_) AllReadyH.nil)
      go_simp
      go_at_call 64
      refine (HP.out V2 D2).mono ?_
      rintro e V3 ⟨rfl, q⟩
      have D3 := D2.trans q
      replace KG := KG.ext q
      refine hK.out _ _ (HS.out _ D3) ?_
      clear hK K
      intro hS1
      (try simp only [Act.put, List.getElem_toArray, List.getElem_cons_succ, List.getElem_cons_zero, List.setIfInBounds_toArray, List.set_cons_zero, List.set_cons_succ])
      (refine wpAnyH_take (i := 12) (v := ?_) rfl (by kernel_rfl) (by kernel_rfl) (by kernel_rfl) (fun _ _ _ h => h) (Or.inl ⟨by rfl, ?_⟩) (by assumption) ?_; rotate_left; focus (intro w hSw; (try dsimp only at hSw); go_simp; try with_reducible rfl); try simp only [Act.put, List.getElem_toArray, List.getElem_cons_succ, List.getElem_cons_zero, List.setIfInBounds_toArray, List.set_cons_zero, List.set_cons_succ])
      (refine wpAnyH_take (i := 13) (v := ?_) rfl (by kernel_rfl) (by kernel_rfl) (by kernel_rfl) (fun _ _ _ h => h) (Or.inl ⟨by rfl, ?_⟩) (by assumption) ?_; rotate_left; focus (intro w hSw; (try dsimp only at hSw); go_simp; try with_reducible rfl); try simp only [Act.put, List.getElem_toArray, List.getElem_cons_succ, List.getElem_cons_zero, List.setIfInBounds_toArray, List.set_cons_zero, List.set_cons_succ])
      (refine wpAnyH_take (i := 14) (v := ?_) rfl (by kernel_rfl) (by kernel_rfl) (by kernel_rfl) (fun _ _ _ h => h) (Or.inl ⟨by rfl, ?_⟩) (by assumption) ?_; rotate_left; focus (intro w hSw; (try dsimp only at hSw); go_simp; try with_reducible rfl); try simp only [Act.put, List.getElem_toArray, List.getElem_cons_succ, List.getElem_cons_zero, List.setIfInBounds_toArray, List.set_cons_zero, List.set_cons_succ])
      (refine wpAnyH_ready (rs := [16]) (by kernel_rfl) (by simp) ?_; refine AllReadyH.cons rfl (fun K hK => ?_) AllReadyH.nil)
      rw [if_pos (by rfl)]
      refine wp_store_at _ _ _ rfl _ rfl (stoBk KG X) rfl ?_
      have KH := KG.row #[.int .i64 X.id, .int .i64 X.addr, .int .i64 X.door, .int .i64 X.weight, .bool X.up, .bool X.drain]
      have D9 := D3.row hge #[.int .i64 X.id, .int .i64 X.addr, .int .i64 X.door, .int .i64 X.weight, .bool X.up, .bool X.drain]
      refine hK.out _ _ (HS.out _ D9) ?_
      clear hK K
      intro hS3
      (try simp only [Act.put, List.getElem_toArray, List.getElem_cons_succ, List.getElem_cons_zero])
      (refine wpAnyH_take (i := 17) (v := ?_) rfl (by kernel_rfl) (by kernel_rfl) (by kernel_rfl) (fun _ _ _ h => h) (Or.inl ⟨by rfl, ?_⟩) (by assumption) ?_; rotate_left; focus (intro w hSw; (try dsimp only at hSw); go_simp; try with_reducible rfl); try simp only [Act.put, List.getElem_toArray, List.getElem_cons_succ, List.getElem_cons_zero, List.setIfInBounds_toArray, List.set_cons_zero, List.set_cons_succ])
      (try simp only [Act.put, List.getElem_toArray, List.getElem_cons_succ, List.getElem_cons_zero, List.setIfInBounds_toArray, List.set_cons_zero, List.set_cons_succ])
      refine wpAnyH_done (by kernel_rfl) ?_ _
      go_wp2_with fail
      go_meet
      exact ⟨g, rfl, rfl, KH, D9⟩
  obtain ⟨g, rfl, rfl, KX, E2⟩ := hcut
  have c1 : _ = some (Value.int .i64 X.addr) := KX.cells 1
  have c2 : _ = some (Value.int .i64 X.door) := KX.cells 2
  have HE := Lib.hid (E1.trans E2)
  clear KX E1 E2 K1 HS D0 HP
  go_wp2_with fail
  go_quiet (fail)
  go_wp2_with fail
  go_returns
  exact ⟨rfl, HE.out.drewN _⟩
set_option maxRecDepth 100000 in
set_option maxHeartbeats 1000000 in
theorem lead2_any (f : Flow) (b : Nat) (n : Int) (w : World) (K : Blk w b 3 #[.int .i64 n]) :
    Calls Tryz.prog 66 #[f.v, .pointer (some ⟨b, 0, none⟩)] w fun e w' => e = .returned (.tuple #[.int .i64 n, .int .i64 f.door, .nilIface]) ∧ Ext w w' := by
  have K1 := Blk.new w 50 f.cells
  have E0 := (Ext.refl w).alloc (.cells f.cells 50)
  have HE := Lib.hid E0
  obtain ⟨_, _, n18⟩ := K1.fnums
  have c0 : (w.alloc (.cells f.cells 50)).cell? ⟨b, 0, none⟩ = some (.int .i64 n) := (K.alloc _).cells 0
  clear K K1 E0
  go_enter Tryz.func66, Tryz.ntmps66
  go_wp2_with fail
  go_quiet (fail)
  go_wp2_with fail
  go_returns
  exact ⟨rfl, HE.out.drewN _⟩
set_option maxRecDepth 100000 in
set_option maxHeartbeats 2000000 in
theorem headed_any (G : GG) (c : Cfg) (bs : List Pl.Back) (s : PS) (B : List Bd) (now : Int) (f : Flow) (w : World) (h : GW w G c bs s B now) :
    Calls Tryz.prog 30 #[.pointer (some ⟨G.g, 0, none⟩), f.v] w fun e w' => e = .returned (.bool (gHead c f)) ∧ Ext w w' := by
  have K1 := Blk.new w 50 f.cells
  have E0 := (Ext.refl w).alloc (.cells f.cells 50)
  have hG := h.ext E0
  obtain ⟨k0, _, _⟩ := K1.fnums
  obtain ⟨_, _, _, _, c21, _⟩ := hG.nums
  have he := fun W => run_sixEq f.dst c.vip 9998 W
  have la := Lib.hid (fun m => (K1.drewN m).fdst)
  have lb := Lib.hid (fun m => (hG.drewN m).vip)
  have HE := Lib.hid E0
  clear h hG K1 E0
  cases hi : c.inj
  case false =>
    have HR := Lib.hid (show gHead c f = false by unfold gHead; rw [hi]; rfl)
    rw [hi] at c21
    clear hi he la lb k0
    go_enter Tryz.func30, Tryz.ntmps30
    go_wp2_with fail
    go_quiet (fail)
    go_wp2_with fail
    go_returns
    exact ⟨by rw [HR.out]; rfl, HE.out.drewN _⟩
  rw [hi] at c21
  cases hv : sixEq f.dst c.vip
  case false =>
    have HR := Lib.hid (show gHead c f = false by unfold gHead; rw [hi, hv]; rfl)
    rw [hv] at he
    clear hi hv k0
    go_enter Tryz.func30, Tryz.ntmps30
    go_wp2_with fail
    refine wp_region_quiet_lit (by kernel_rfl) (by kernel_rfl) ?_; repeat (go_big_quiet_step (fail))
    go_big_quiet_want; refine quiet_ld _ _ rfl rfl (by rintro _ ⟨m, rfl⟩; exact la.out m) ?_; go_big_quiet_on; (try simp only [Act.put, List.setIfInBounds_toArray, List.set_cons_zero, List.set_cons_succ]); repeat (go_big_quiet_step (fail))
    go_big_quiet_want; refine quiet_ld _ _ rfl rfl (by rintro _ ⟨m, rfl⟩; exact lb.out m) ?_; go_big_quiet_on; (try simp only [Act.put, List.setIfInBounds_toArray, List.set_cons_zero, List.set_cons_succ]); repeat (go_big_quiet_step (fail))
    refine wpQuiet_nil ?_; intro _ hw'; obtain ⟨nq, hw''⟩ := hw'; subst hw''
    clear la lb he
    go_wp2_with fail
    go_returns
    exact ⟨by rw [HR.out]; rfl, HE.out.drewN _⟩
  have HR := Lib.hid (show gHead c f = decide (f.kind = 6) by unfold gHead; rw [hi, hv]; rfl)
  rw [hv] at he
  clear hi hv
  by_cases hk : f.kind = 6
  · have hb : (f.kind == 6) = true := by simp [hk]
    have HD := Lib.hid (show decide (f.kind = 6) = true by simp [hk])
    clear hk
    go_enter Tryz.func30, Tryz.ntmps30
    go_wp2_with fail
    refine wp_region_quiet_lit (by kernel_rfl) (by kernel_rfl) ?_; repeat (go_big_quiet_step (fail))
    go_big_quiet_want; refine quiet_ld _ _ rfl rfl (by rintro _ ⟨m, rfl⟩; exact la.out m) ?_; go_big_quiet_on; (try simp only [Act.put, List.setIfInBounds_toArray, List.set_cons_zero, List.set_cons_succ]); repeat (go_big_quiet_step (fail))
    go_big_quiet_want; refine quiet_ld _ _ rfl rfl (by rintro _ ⟨m, rfl⟩; exact lb.out m) ?_; go_big_quiet_on; (try simp only [Act.put, List.setIfInBounds_toArray, List.set_cons_zero, List.set_cons_succ]); repeat (go_big_quiet_step (fail))
    refine wpQuiet_nil ?_; intro _ hw'; obtain ⟨nq, hw''⟩ := hw'; subst hw''
    clear la lb he
    go_wp2_with fail
    go_returns
    exact ⟨by rw [HR.out, HD.out]; rfl, HE.out.drewN _⟩
  · have hb : (f.kind == 6) = false := by simp [hk]
    have HD := Lib.hid (show decide (f.kind = 6) = false by simp [hk])
    clear hk
    go_enter Tryz.func30, Tryz.ntmps30
    go_wp2_with fail
    refine wp_region_quiet_lit (by kernel_rfl) (by kernel_rfl) ?_; repeat (go_big_quiet_step (fail))
    go_big_quiet_want; refine quiet_ld _ _ rfl rfl (by rintro _ ⟨m, rfl⟩; exact la.out m) ?_; go_big_quiet_on; (try simp only [Act.put, List.setIfInBounds_toArray, List.set_cons_zero, List.set_cons_succ]); repeat (go_big_quiet_step (fail))
    go_big_quiet_want; refine quiet_ld _ _ rfl rfl (by rintro _ ⟨m, rfl⟩; exact lb.out m) ?_; go_big_quiet_on; (try simp only [Act.put, List.setIfInBounds_toArray, List.set_cons_zero, List.set_cons_succ]); repeat (go_big_quiet_step (fail))
    refine wpQuiet_nil ?_; intro _ hw'; obtain ⟨nq, hw''⟩ := hw'; subst hw''
    clear la lb he
    go_wp2_with fail
    go_returns
    exact ⟨by rw [HR.out, HD.out]; rfl, HE.out.drewN _⟩
end Go.Proofs.YtbjogkpepfgegaaGreatDoor
