/- gate.where, what it hands back, gate.headed. Conditions: as each lemma states them. -/
import Derived.Test.YtbjogkpepfgegaaGreatDoorK35
import Derived.Test.YtbjogkpepfgegaaGreatDoorK03
import Derived.Test.YtbjogkpepfgegaaGreatDoorK07
import Derived.Test.YtbjogkpepfgegaaGreatDoorK16
import Derived.Test.YtbjogkpepfgegaaGreatDoorK11
import Derived.Test.YtbjogkpepfgegaaGreatDoorK04
import Derived.BigQuiet
import Derived.Deep.DeepCutAuto
import Derived.Deep.RegionHeld3
namespace Go.Proofs.YtbjogkpepfgegaaGreatDoor
open Go.RowKit
/-- An int's cell is stored to. -/
theorem sto_int {w : World} {g : Nat} {t : TypeId} {old : Value} (h : Blk w g t #[old]) (n : Int) : (Instr.storeAt 3 (.pointer (some ⟨g, 0, none⟩)) (.int .i64 n)).run Tryz.prog w = .ok () (w.setCell ⟨g, 0, none⟩ (.int .i64 n)) := by
  have c0 : w.cell? ⟨g, 0, none⟩ = some old := h.cells 0
  have f0 := h.free 0
  have e : Addr.add ⟨g, 0, none⟩ 0 = ⟨g, 0, none⟩ := rfl
  simp [Instr.storeAt, Instr.sureAddr, storeVar, Value.cells, storeCells, e, run_store_int, stored, c0, f0]
/-- A function that leads a flow. -/
def Leads (w : World) (G : GG) (c : Cfg) (f : Flow) (t : Value) : Prop :=
  (sixEq f.dst c.vip = true ∧ ∃ b, t = .func (.func 63) #[] #[.pointer (some ⟨b, 0, none⟩)] ∧ Blk w b 28 #[.pointer (some ⟨G.g, 0, none⟩)]) ∨
  (sixEq f.dst c.vip = false ∧ ∃ b, t = .func (.func 66) #[] #[.pointer (some ⟨b, 0, none⟩)] ∧ Blk w b 3 #[.int .i64 (Pl.outVal f.dst c.len)])
theorem Leads.ext {w w' : World} {G : GG} {c : Cfg} {f : Flow} {t : Value} (h : Leads w G c f t) (k : Ext w w') : Leads w' G c f t := by
  rcases h with ⟨h, b, e, K⟩ | ⟨h, b, e, K⟩
  · exact .inl ⟨h, b, e, K.ext k⟩
  · exact .inr ⟨h, b, e, K.ext k⟩
def WhereGot (w : World) (G : GG) (c : Cfg) (f : Flow) (e : Ending) (w' : World) : Prop :=
  (∃ t, e = .returned (.tuple #[t, erv (gWhQ c f)]) ∧ (gWhQ c f = 0 → Leads w' G c f t)) ∧ Ext w w'
theorem whereGot_no {w w' : World} {G : GG} {c : Cfg} {f : Flow} {t v : Value} {q : Int} (hq : gWhQ c f = q) (h : q ≠ 0) (hv : v = erv q) (hE : Ext w w') : WhereGot w G c f (.returned (.tuple #[t, v])) w' := by
  subst hq
  subst hv
  exact ⟨⟨t, rfl, fun h0 => absurd h0 h⟩, hE⟩
theorem whereGot_yes {w w' : World} {G : GG} {c : Cfg} {f : Flow} {t : Value} (hq : gWhQ c f = 0) (hL : Leads w' G c f t) (hE : Ext w w') : WhereGot w G c f (.returned (.tuple #[t, .nilIface])) w' :=
  ⟨⟨t, by rw [hq]; rfl, fun _ => hL⟩, hE⟩
section
variable {w : World} {G : GG} {c : Cfg} {bs : List Pl.Back} {s : PS} {B : List Bd} {now : Int}
theorem GW.vip (h : GW w G c bs s B now) : (Instr.loadAt 23 (.pointer (some ⟨G.g, 0, none⟩))).run Tryz.prog w = .ok (.agg c.vip.cells) w :=
  h.blk.six 0 c.vip fun j hj => by
    have h : j = 0 ∨ j = 1 ∨ j = 2 ∨ j = 3 ∨ j = 4 ∨ j = 5 ∨ j = 6 ∨ j = 7 := by omega
    rcases h with rfl | rfl | rfl | rfl | rfl | rfl | rfl | rfl <;> rfl
theorem GW.pre (h : GW w G c bs s B now) : (Instr.loadAt 23 (.pointer (some ⟨G.g, 9, none⟩))).run Tryz.prog w = .ok (.agg c.pre.cells) w :=
  h.blk.six 9 c.pre fun j hj => by
    have h : j = 0 ∨ j = 1 ∨ j = 2 ∨ j = 3 ∨ j = 4 ∨ j = 5 ∨ j = 6 ∨ j = 7 := by omega
    rcases h with rfl | rfl | rfl | rfl | rfl | rfl | rfl | rfl <;> rfl
theorem GW.nums (h : GW w G c bs s B now) : w.cell? ⟨G.g, 8, none⟩ = some (.int .i64 c.door) ∧ w.cell? ⟨G.g, 17, none⟩ = some (.int .i64 c.len) ∧ w.cell? ⟨G.g, 18, none⟩ = some (.int .i64 c.near) ∧ w.cell? ⟨G.g, 19, none⟩ = some (.int .i64 c.seed) ∧ w.cell? ⟨G.g, 21, none⟩ = some (.bool c.inj) ∧ w.cell? ⟨G.g, 22, none⟩ = some G.bv ∧
    w.cell? ⟨G.g, 23, none⟩ = some (.pointer (some ⟨G.T.gT, 0, none⟩)) ∧ w.cell? ⟨G.g, 24, none⟩ = some (.map (some G.gS)) ∧ w.cell? ⟨G.g, 25, none⟩ = some (.int .i64 now) :=
  ⟨h.blk.cells 8, h.blk.cells 17, h.blk.cells 18, h.blk.cells 19, h.blk.cells 21, h.blk.cells 22, h.blk.cells 23, h.blk.cells 24, h.blk.cells 25⟩
theorem GW.drewN (h : GW w G c bs s B now) (n : Nat) : GW (w.drewN n) G c bs s B now := h.ext ((Ext.refl w).drewN n)
end
set_option maxRecDepth 100000 in
set_option maxHeartbeats 2000000 in
theorem where_any (G : GG) (c : Cfg) (bs : List Pl.Back) (s : PS) (B : List Bd) (now : Int) (f : Flow) (w : World) (h : GW w G c bs s B now) :
    Calls Tryz.prog 29 #[.pointer (some ⟨G.g, 0, none⟩), f.v] w (WhereGot w G c f) := by
  have K0 := (Blk.new w 28 #[.pointer (some ⟨G.g, 0, none⟩)]).alloc (.cells f.cells 50)
  have K1 := Blk.at (n := w.heap.size + 1) (w.alloc (.cells #[.pointer (some ⟨G.g, 0, none⟩)] 28)) 50 f.cells (by simp)
  have E0 := ((Ext.refl w).alloc (.cells #[.pointer (some ⟨G.g, 0, none⟩)] 28)).alloc (.cells f.cells 50)
  have HG := Lib.hid (fun w' (E : Ext w w') => h.ext E)
  clear h
  go_enter Tryz.func29, Tryz.ntmps29
  go_upto_region 1 with (fail)
  refine at_worldE (fun W => Ext w W ∧ Blk W w.heap.size 28 #[.pointer (some ⟨G.g, 0, none⟩)] ∧ Blk W (w.heap.size + 1) 50 f.cells) ⟨E0, K0, K1⟩ ?_
  clear E0 K0 K1
  rintro W1 ⟨E1, K0, K1⟩
  have he := fun W => run_sixEq f.dst c.vip 9998 W
  have la := Lib.hid (fun m => (K1.drewN m).fdst)
  have lb := Lib.hid (fun m => ((HG.out W1 E1).drewN m).vip)
  have c0 : W1.cell? ⟨w.heap.size, 0, none⟩ = some (.pointer (some ⟨G.g, 0, none⟩)) := K0.cells 0
  have HX := Lib.hid (And.intro E1 (And.intro K0 K1))
  clear E1 K0 K1
  cases hv : sixEq f.dst c.vip
  case true =>
    rw [hv] at he
    have HW := Lib.hid (show gWhQ c f = if f.door = c.door then 0 else 4 by unfold gWhQ; rw [if_pos hv])
    have HV := Lib.hid hv
    clear hv
    refine wp_region_quiet_lit (by kernel_rfl) (by kernel_rfl) ?_; repeat (go_big_quiet_step (fail))
    go_big_quiet_want; refine quiet_ld _ _ rfl rfl (by rintro _ ⟨m, rfl⟩; exact la.out m) ?_; go_big_quiet_on; (try simp only [Act.put, List.setIfInBounds_toArray, List.set_cons_zero, List.set_cons_succ]); repeat (go_big_quiet_step (fail))
    go_big_quiet_want; refine quiet_ld _ _ rfl rfl (by rintro _ ⟨m, rfl⟩; exact lb.out m) ?_; go_big_quiet_on; (try simp only [Act.put, List.setIfInBounds_toArray, List.set_cons_zero, List.set_cons_succ]); repeat (go_big_quiet_step (fail))
    refine wpQuiet_nil ?_; intro _ hw'; obtain ⟨nq, hw''⟩ := hw'; subst hw''
    clear la lb he
    obtain ⟨E1, K0, K1⟩ := HX.out
    go_upto_region 2 with (fail)
    refine at_worldE (fun W => Ext w W ∧ Blk W w.heap.size 28 #[.pointer (some ⟨G.g, 0, none⟩)] ∧ Blk W (w.heap.size + 1) 50 f.cells) ⟨E1.drewN _, K0.drewN _, K1.drewN _⟩ ?_
    clear E1 K0 K1 c0 HX
    rintro W2 ⟨E2, K0, K1⟩
    obtain ⟨c8, _⟩ := (HG.out W2 E2).nums
    obtain ⟨_, _, n18⟩ := K1.fnums
    have c0 : W2.cell? ⟨w.heap.size, 0, none⟩ = some (.pointer (some ⟨G.g, 0, none⟩)) := K0.cells 0
    have HX := Lib.hid (And.intro E2 K0)
    clear E2 K0 K1
    by_cases hd : f.door = c.door
    · have hb : (f.door != c.door) = false := by simp [hd]
      rw [if_pos hd] at HW
      clear hd
      go_wp2_with fail
      go_quiet (fail)
      go_wp2_with fail
      go_returns
      exact whereGot_yes HW.out (.inl ⟨HV.out, _, rfl, HX.out.2.drewN _⟩) (HX.out.1.drewN _)
    · have hb : (f.door != c.door) = true := by simp [hd]
      rw [if_neg hd] at HW
      clear hd
      go_wp2_with fail
      go_quiet (fail)
      go_wp2_with fail
      go_returns
      exact whereGot_no HW.out (by decide) rfl (HX.out.1.drewN _)
  case false =>
    rw [hv] at he
    have HW := Lib.hid (show gWhQ c f = if Pl.outErr f.dst c.len = 0 then (if Pl.inVal f.dst c.pre c.len = true then 0 else 4) else 4 by unfold gWhQ; rw [if_neg (by rw [hv]; exact Bool.false_ne_true)])
    have HV := Lib.hid hv
    clear hv
    refine wp_region_quiet_lit (by kernel_rfl) (by kernel_rfl) ?_; repeat (go_big_quiet_step (fail))
    go_big_quiet_want; refine quiet_ld _ _ rfl rfl (by rintro _ ⟨m, rfl⟩; exact la.out m) ?_; go_big_quiet_on; (try simp only [Act.put, List.setIfInBounds_toArray, List.set_cons_zero, List.set_cons_succ]); repeat (go_big_quiet_step (fail))
    go_big_quiet_want; refine quiet_ld _ _ rfl rfl (by rintro _ ⟨m, rfl⟩; exact lb.out m) ?_; go_big_quiet_on; (try simp only [Act.put, List.setIfInBounds_toArray, List.set_cons_zero, List.set_cons_succ]); repeat (go_big_quiet_step (fail))
    refine wpQuiet_nil ?_; intro _ hw'; obtain ⟨nq, hw''⟩ := hw'; subst hw''
    clear la lb he
    obtain ⟨E1, K0, K1⟩ := HX.out
    go_upto_region 5 with (fail)
    refine at_worldE (fun W => Ext w W ∧ Blk W w.heap.size 28 #[.pointer (some ⟨G.g, 0, none⟩)] ∧ Blk W (w.heap.size + 1) 50 f.cells) ⟨E1.drewN _, K0.drewN _, K1.drewN _⟩ ?_
    clear E1 K0 K1 c0 HX
    rintro W2 ⟨E2, K0, K1⟩
    have HS := Lib.hid (fun V (E : Ext W2 V) => (show V.cell? ⟨w.heap.size, 0, none⟩ = some (.pointer (some ⟨G.g, 0, none⟩)) ∧ Blk V (w.heap.size + 1) 50 f.cells ∧ V.cell? ⟨G.g, 17, none⟩ = some (.int .i64 c.len) from ⟨(K0.ext E).cells 0, K1.ext E, (HG.out V (E2.trans E)).nums.2.1⟩))
    have D0 : Ext W2 W2.drew := (Ext.refl W2).drew
    go_cut [6, 7] (fun p er wc => ∃ g, p = .pointer (some ⟨g, 0, none⟩) ∧ er = erv (Pl.outErr f.dst c.len) ∧ Blk wc g 3 #[.int .i64 (Pl.outVal f.dst c.len)] ∧ Ext W2 wc)
    case first =>
      have HS0 := HS.out _ D0
      refine wp_region_held_drew (S := (fun V => V.cell? ⟨w.heap.size, 0, none⟩ = some (.pointer (some ⟨G.g, 0, none⟩)) ∧ Blk V (w.heap.size + 1) 50 f.cells ∧ V.cell? ⟨G.g, 17, none⟩ = some (.int .i64 c.len))) (by kernel_rfl) HS0 (fun hS0 => ?_)
      clear HS0
      have D1 := D0
      have hW1 := D1.size
      generalize W2.drew = V1 at *
      (refine wpAnyH_take (i := 0) (v := ?_) rfl (by kernel_rfl) (by kernel_rfl) (by kernel_rfl) (fun _ _ _ h => h) (Or.inl ⟨by rfl, ?_⟩) (by assumption) ?_; rotate_left; focus (intro w hSw; (try dsimp only at hSw); go_simp; try with_reducible rfl); try simp only [Act.put, List.getElem_toArray, List.getElem_cons_succ, List.getElem_cons_zero, List.setIfInBounds_toArray, List.set_cons_zero, List.set_cons_succ])
      refine wpAnyH_take (i := 1) rfl (by kernel_rfl) (by kernel_rfl) (by kernel_rfl) (fun _ _ _ h => h) (Or.inl ⟨by rfl, fun W hS => exec_load rfl rfl (hS.2.1.fdst)⟩) (by assumption) ?_
      (try simp only [Act.put, List.getElem_toArray, List.getElem_cons_succ, List.getElem_cons_zero, List.setIfInBounds_toArray, List.set_cons_zero, List.set_cons_succ])
      (refine wpAnyH_take (i := 2) (v := ?_) rfl (by kernel_rfl) (by kernel_rfl) (by kernel_rfl) (fun _ _ _ h => h) (Or.inl ⟨by rfl, ?_⟩) (by assumption) ?_; rotate_left; focus (intro w hSw; (try dsimp only at hSw); go_simp; try with_reducible rfl); try simp only [Act.put, List.getElem_toArray, List.getElem_cons_succ, List.getElem_cons_zero, List.setIfInBounds_toArray, List.set_cons_zero, List.set_cons_succ])
      (refine wpAnyH_take (i := 3) (v := ?_) rfl (by kernel_rfl) (by kernel_rfl) (by kernel_rfl) (fun _ _ _ h => h) (Or.inl ⟨by rfl, ?_⟩) (by assumption) ?_; rotate_left; focus (intro w hSw; (try dsimp only at hSw); go_simp; try with_reducible rfl); try simp only [Act.put, List.getElem_toArray, List.getElem_cons_succ, List.getElem_cons_zero, List.setIfInBounds_toArray, List.set_cons_zero, List.set_cons_succ])
      (refine wpAnyH_take (i := 4) (v := ?_) rfl (by kernel_rfl) (by kernel_rfl) (by kernel_rfl) (fun _ _ _ h => h) (Or.inl ⟨by rfl, ?_⟩) (by assumption) ?_; rotate_left; focus (intro w hSw; (try dsimp only at hSw); go_simp; try with_reducible rfl); try simp only [Act.put, List.getElem_toArray, List.getElem_cons_succ, List.getElem_cons_zero, List.setIfInBounds_toArray, List.set_cons_zero, List.set_cons_succ])
      (refine wpAnyH_take (i := 5) (v := ?_) rfl (by kernel_rfl) (by kernel_rfl) (by kernel_rfl) (fun _ _ _ h => h) (Or.inl ⟨by rfl, ?_⟩) (by assumption) ?_; rotate_left; focus (intro w hSw; (try dsimp only at hSw); go_simp; try with_reducible rfl); try simp only [Act.put, List.getElem_toArray, List.getElem_cons_succ, List.getElem_cons_zero, List.setIfInBounds_toArray, List.set_cons_zero, List.set_cons_succ])
      (refine wpAnyH_take (i := 6) (v := ?_) rfl (by kernel_rfl) (by kernel_rfl) (by kernel_rfl) (fun _ _ _ h => h) (Or.inl ⟨by rfl, ?_⟩) (by assumption) ?_; rotate_left; focus (intro w hSw; (try dsimp only at hSw); go_simp; try with_reducible rfl); try simp only [Act.put, List.getElem_toArray, List.getElem_cons_succ, List.getElem_cons_zero, List.setIfInBounds_toArray, List.set_cons_zero, List.set_cons_succ])
      (try simp only [Act.put, List.getElem_toArray, List.getElem_cons_succ, List.getElem_cons_zero, List.setIfInBounds_toArray, List.set_cons_zero, List.set_cons_succ])
      refine wpAnyH_ready (rs := [7, 11]) (by kernel_rfl) (by simp) ?_
      refine AllReadyH.cons rfl (fun K hK => ?_) (AllReadyH.cons rfl (fun K hK => ?_) AllReadyH.nil)
      · go_simp
        go_at_call 65
        refine (out_any f.dst c.len V1).mono ?_
        rintro e V2 ⟨rfl, q⟩
        have D2 := D1.trans q
        refine hK.out _ _ (HS.out _ D2) ?_
        clear hK K
        intro hS1
        (try simp only [Act.put, List.getElem_toArray, List.getElem_cons_succ, List.getElem_cons_zero, List.setIfInBounds_toArray, List.set_cons_zero, List.set_cons_succ])
        (refine wpAnyH_take (i := 8) (v := ?_) rfl (by kernel_rfl) (by kernel_rfl) (by kernel_rfl) (fun _ _ _ h => h) (Or.inl ⟨by rfl, ?_⟩) (by assumption) ?_; rotate_left; focus (intro w hSw; (try dsimp only at hSw); go_simp; try with_reducible rfl); try simp only [Act.put, List.getElem_toArray, List.getElem_cons_succ, List.getElem_cons_zero, List.setIfInBounds_toArray, List.set_cons_zero, List.set_cons_succ])
        (refine wpAnyH_take (i := 9) (v := ?_) rfl (by kernel_rfl) (by kernel_rfl) (by kernel_rfl) (fun _ _ _ h => h) (Or.inl ⟨by rfl, ?_⟩) (by assumption) ?_; rotate_left; focus (intro w hSw; (try dsimp only at hSw); go_simp; try with_reducible rfl); try simp only [Act.put, List.getElem_toArray, List.getElem_cons_succ, List.getElem_cons_zero, List.setIfInBounds_toArray, List.set_cons_zero, List.set_cons_succ])
        (refine wpAnyH_take (i := 10) (v := ?_) rfl (by kernel_rfl) (by kernel_rfl) (by kernel_rfl) (fun _ _ _ h => h) (Or.inl ⟨by rfl, ?_⟩) (by assumption) ?_; rotate_left; focus (intro w hSw; (try dsimp only at hSw); go_simp; try with_reducible rfl); try simp only [Act.put, List.getElem_toArray, List.getElem_cons_succ, List.getElem_cons_zero, List.setIfInBounds_toArray, List.set_cons_zero, List.set_cons_succ])
        (refine wpAnyH_ready (rs := [11]) (by kernel_rfl) (by simp) ?_; refine AllReadyH.cons rfl (fun K hK => ?_) AllReadyH.nil)
        go_simp
        have KG := Blk.new V2 3 #[.int .i64 0]
        have D3 := D2.alloc (.cells #[.int .i64 0] 3)
        have hge : W2.heap.size ≤ V2.heap.size := D2.size
        refine hK.out _ _ (HS.out _ D3) ?_
        clear hK K
        intro hS2
        clear D2
        generalize V2.alloc (.cells #[.int .i64 0] 3) = V3 at *
        generalize V2.heap.size = g at *
        (try simp only [Act.put, List.getElem_toArray, List.getElem_cons_succ, List.getElem_cons_zero, List.setIfInBounds_toArray, List.set_cons_zero, List.set_cons_succ])
        (refine wpAnyH_ready (rs := [12]) (by kernel_rfl) (by simp) ?_; refine AllReadyH.cons rfl (fun K hK => ?_) AllReadyH.nil)
        rw [if_pos (by rfl)]
        refine wp_store_at _ _ _ rfl _ rfl (sto_int KG _) rfl ?_
        have KH : Blk _ g 3 #[.int .i64 (Pl.outVal f.dst c.len)] := KG.put 0 (.int .i64 (Pl.outVal f.dst c.len))
        have D9 := Ext.set D3 (p := ⟨g, 0, none⟩) hge (.int .i64 (Pl.outVal f.dst c.len))
        refine hK.out _ _ (HS.out _ D9) ?_
        clear hK K
        intro hS3
        (try simp only [Act.put, List.getElem_toArray, List.getElem_cons_succ, List.getElem_cons_zero])
        (refine wpAnyH_take (i := 13) (v := ?_) rfl (by kernel_rfl) (by kernel_rfl) (by kernel_rfl) (fun _ _ _ h => h) (Or.inl ⟨by rfl, ?_⟩) (by assumption) ?_; rotate_left; focus (intro w hSw; (try dsimp only at hSw); go_simp; try with_reducible rfl); try simp only [Act.put, List.getElem_toArray, List.getElem_cons_succ, List.getElem_cons_zero, List.setIfInBounds_toArray, List.set_cons_zero, List.set_cons_succ])
        (try simp only [Act.put, List.getElem_toArray, List.getElem_cons_succ, List.getElem_cons_zero, List.setIfInBounds_toArray, List.set_cons_zero, List.set_cons_succ])
        refine wpAnyH_done (by kernel_rfl) ?_ _
        go_wp2_with fail
        go_meet
        exact ⟨g, rfl, rfl, KH, D9⟩
      · go_simp
        have KG := Blk.new V1 3 #[.int .i64 0]
        have D2 := D1.alloc (.cells #[.int .i64 0] 3)
        have hge : W2.heap.size ≤ V1.heap.size := D1.size
        refine hK.out _ _ (HS.out _ D2) ?_
        clear hK K
        intro hS2
        clear D1
        generalize V1.alloc (.cells #[.int .i64 0] 3) = V2 at *
        generalize V1.heap.size = g at *
        (try simp only [Act.put, List.getElem_toArray, List.getElem_cons_succ, List.getElem_cons_zero, List.setIfInBounds_toArray, List.set_cons_zero, List.set_cons_succ])
        (refine wpAnyH_ready (rs := [7]) (by kernel_rfl) (by simp) ?_; refine AllReadyH.cons rfl (fun K hK => ?_) AllReadyH.nil)
        go_simp
        go_at_call 65
        refine (out_any f.dst c.len V2).mono ?_
        rintro e V3 ⟨rfl, q⟩
        have D3 := D2.trans q
        replace KG := KG.ext q
        refine hK.out _ _ (HS.out _ D3) ?_
        clear hK K
        intro hS1
        (try simp only [Act.put, List.getElem_toArray, List.getElem_cons_succ, List.getElem_cons_zero, List.setIfInBounds_toArray, List.set_cons_zero, List.set_cons_succ])
        (refine wpAnyH_take (i := 8) (v := ?_) rfl (by kernel_rfl) (by kernel_rfl) (by kernel_rfl) (fun _ _ _ h => h) (Or.inl ⟨by rfl, ?_⟩) (by assumption) ?_; rotate_left; focus (intro w hSw; (try dsimp only at hSw); go_simp; try with_reducible rfl); try simp only [Act.put, List.getElem_toArray, List.getElem_cons_succ, List.getElem_cons_zero, List.setIfInBounds_toArray, List.set_cons_zero, List.set_cons_succ])
        (refine wpAnyH_take (i := 9) (v := ?_) rfl (by kernel_rfl) (by kernel_rfl) (by kernel_rfl) (fun _ _ _ h => h) (Or.inl ⟨by rfl, ?_⟩) (by assumption) ?_; rotate_left; focus (intro w hSw; (try dsimp only at hSw); go_simp; try with_reducible rfl); try simp only [Act.put, List.getElem_toArray, List.getElem_cons_succ, List.getElem_cons_zero, List.setIfInBounds_toArray, List.set_cons_zero, List.set_cons_succ])
        (refine wpAnyH_take (i := 10) (v := ?_) rfl (by kernel_rfl) (by kernel_rfl) (by kernel_rfl) (fun _ _ _ h => h) (Or.inl ⟨by rfl, ?_⟩) (by assumption) ?_; rotate_left; focus (intro w hSw; (try dsimp only at hSw); go_simp; try with_reducible rfl); try simp only [Act.put, List.getElem_toArray, List.getElem_cons_succ, List.getElem_cons_zero, List.setIfInBounds_toArray, List.set_cons_zero, List.set_cons_succ])
        (refine wpAnyH_ready (rs := [12]) (by kernel_rfl) (by simp) ?_; refine AllReadyH.cons rfl (fun K hK => ?_) AllReadyH.nil)
        rw [if_pos (by rfl)]
        refine wp_store_at _ _ _ rfl _ rfl (sto_int KG _) rfl ?_
        have KH : Blk _ g 3 #[.int .i64 (Pl.outVal f.dst c.len)] := KG.put 0 (.int .i64 (Pl.outVal f.dst c.len))
        have D9 := Ext.set D3 (p := ⟨g, 0, none⟩) hge (.int .i64 (Pl.outVal f.dst c.len))
        refine hK.out _ _ (HS.out _ D9) ?_
        clear hK K
        intro hS3
        (try simp only [Act.put, List.getElem_toArray, List.getElem_cons_succ, List.getElem_cons_zero])
        (refine wpAnyH_take (i := 13) (v := ?_) rfl (by kernel_rfl) (by kernel_rfl) (by kernel_rfl) (fun _ _ _ h => h) (Or.inl ⟨by rfl, ?_⟩) (by assumption) ?_; rotate_left; focus (intro w hSw; (try dsimp only at hSw); go_simp; try with_reducible rfl); try simp only [Act.put, List.getElem_toArray, List.getElem_cons_succ, List.getElem_cons_zero, List.setIfInBounds_toArray, List.set_cons_zero, List.set_cons_succ])
        (try simp only [Act.put, List.getElem_toArray, List.getElem_cons_succ, List.getElem_cons_zero, List.setIfInBounds_toArray, List.set_cons_zero, List.set_cons_succ])
        refine wpAnyH_done (by kernel_rfl) ?_ _
        go_wp2_with fail
        go_meet
        exact ⟨g, rfl, rfl, KH, D9⟩
    obtain ⟨g, rfl, rfl, KV, E3⟩ := hcut
    have E4 := E2.trans E3
    have KA := K0.ext E3
    have KB := K1.ext E3
    by_cases ho : Pl.outErr f.dst c.len = 0
    case neg =>
      rw [if_neg ho] at HW
      rw [erv_ne ho]
      unfold errv
      clear ho E2 E3 KA KB KV HS D0 K0 K1
      go_wp2_with fail
      go_returns
      exact whereGot_no HW.out (by decide) rfl E4
    case pos =>
      rw [if_pos ho] at HW
      rw [ho, erv_zero]
      have HIN := Lib.hid (fun V => in_any f.dst c.pre c.len V)
      have HI0 : Pl.inErr f.dst c.pre c.len = 0 ∨ Pl.inErr f.dst c.pre c.len ≠ 0 := Decidable.em _
      clear ho E2 E3 HS D0 K0 K1
      go_upto_region 8 with (fail)
      refine at_worldE (fun W => Ext w W ∧ Blk W w.heap.size 28 #[.pointer (some ⟨G.g, 0, none⟩)] ∧ Blk W (w.heap.size + 1) 50 f.cells ∧ Blk W g 3 #[.int .i64 (Pl.outVal f.dst c.len)]) ⟨E4, KA, KB, KV⟩ ?_
      clear E4 KA KB KV
      rintro W3 ⟨E4, KA, KB, KV⟩
      have HS := Lib.hid (fun V (E : Ext W3 V) => (show V.cell? ⟨w.heap.size, 0, none⟩ = some (.pointer (some ⟨G.g, 0, none⟩)) ∧ Blk V (w.heap.size + 1) 50 f.cells ∧ V.cell? ⟨G.g, 17, none⟩ = some (.int .i64 c.len) ∧ (Instr.loadAt 23 (.pointer (some ⟨G.g, 9, none⟩))).run Tryz.prog V = .ok (.agg c.pre.cells) V from ⟨(KA.ext E).cells 0, KB.ext E, (HG.out V (E4.trans E)).nums.2.1, (HG.out V (E4.trans E)).pre⟩))
      have D0 : Ext W3 W3.drew := (Ext.refl W3).drew
      have HS0 := HS.out _ D0
      refine wp_region_held_drew (S := (fun V => V.cell? ⟨w.heap.size, 0, none⟩ = some (.pointer (some ⟨G.g, 0, none⟩)) ∧ Blk V (w.heap.size + 1) 50 f.cells ∧ V.cell? ⟨G.g, 17, none⟩ = some (.int .i64 c.len) ∧ (Instr.loadAt 23 (.pointer (some ⟨G.g, 9, none⟩))).run Tryz.prog V = .ok (.agg c.pre.cells) V)) (by kernel_rfl) HS0 (fun hS0 => ?_)
      clear HS0
      have D1 := D0
      generalize W3.drew = V1 at *
      (refine wpAnyH_take (i := 0) (v := ?_) rfl (by kernel_rfl) (by kernel_rfl) (by kernel_rfl) (fun _ _ _ h => h) (Or.inl ⟨by rfl, ?_⟩) (by assumption) ?_; rotate_left; focus (intro w hSw; (try dsimp only at hSw); go_simp; try with_reducible rfl); try simp only [Act.put, List.getElem_toArray, List.getElem_cons_succ, List.getElem_cons_zero, List.setIfInBounds_toArray, List.set_cons_zero, List.set_cons_succ])
      refine wpAnyH_take (i := 1) rfl (by kernel_rfl) (by kernel_rfl) (by kernel_rfl) (fun _ _ _ h => h) (Or.inl ⟨by rfl, fun W hS => exec_load rfl rfl (hS.2.1.fdst)⟩) (by assumption) ?_
      (try simp only [Act.put, List.getElem_toArray, List.getElem_cons_succ, List.getElem_cons_zero, List.setIfInBounds_toArray, List.set_cons_zero, List.set_cons_succ])
      (refine wpAnyH_take (i := 2) (v := ?_) rfl (by kernel_rfl) (by kernel_rfl) (by kernel_rfl) (fun _ _ _ h => h) (Or.inl ⟨by rfl, ?_⟩) (by assumption) ?_; rotate_left; focus (intro w hSw; (try dsimp only at hSw); go_simp; try with_reducible rfl); try simp only [Act.put, List.getElem_toArray, List.getElem_cons_succ, List.getElem_cons_zero, List.setIfInBounds_toArray, List.set_cons_zero, List.set_cons_succ])
      (refine wpAnyH_take (i := 3) (v := ?_) rfl (by kernel_rfl) (by kernel_rfl) (by kernel_rfl) (fun _ _ _ h => h) (Or.inl ⟨by rfl, ?_⟩) (by assumption) ?_; rotate_left; focus (intro w hSw; (try dsimp only at hSw); go_simp; try with_reducible rfl); try simp only [Act.put, List.getElem_toArray, List.getElem_cons_succ, List.getElem_cons_zero, List.setIfInBounds_toArray, List.set_cons_zero, List.set_cons_succ])
      (refine wpAnyH_take (i := 4) (v := ?_) rfl (by kernel_rfl) (by kernel_rfl) (by kernel_rfl) (fun _ _ _ h => h) (Or.inl ⟨by rfl, ?_⟩) (by assumption) ?_; rotate_left; focus (intro w hSw; (try dsimp only at hSw); go_simp; try with_reducible rfl); try simp only [Act.put, List.getElem_toArray, List.getElem_cons_succ, List.getElem_cons_zero, List.setIfInBounds_toArray, List.set_cons_zero, List.set_cons_succ])
      (refine wpAnyH_take (i := 5) (v := ?_) rfl (by kernel_rfl) (by kernel_rfl) (by kernel_rfl) (fun _ _ _ h => h) (Or.inl ⟨by rfl, ?_⟩) (by assumption) ?_; rotate_left; focus (intro w hSw; (try dsimp only at hSw); go_simp; try with_reducible rfl); try simp only [Act.put, List.getElem_toArray, List.getElem_cons_succ, List.getElem_cons_zero, List.setIfInBounds_toArray, List.set_cons_zero, List.set_cons_succ])
      refine wpAnyH_take (i := 6) rfl (by kernel_rfl) (by kernel_rfl) (by kernel_rfl) (fun _ _ _ h => h) (Or.inl ⟨by rfl, fun W hS => exec_load rfl rfl (hS.2.2.2)⟩) (by assumption) ?_
      (try simp only [Act.put, List.getElem_toArray, List.getElem_cons_succ, List.getElem_cons_zero, List.setIfInBounds_toArray, List.set_cons_zero, List.set_cons_succ])
      (refine wpAnyH_take (i := 7) (v := ?_) rfl (by kernel_rfl) (by kernel_rfl) (by kernel_rfl) (fun _ _ _ h => h) (Or.inl ⟨by rfl, ?_⟩) (by assumption) ?_; rotate_left; focus (intro w hSw; (try dsimp only at hSw); go_simp; try with_reducible rfl); try simp only [Act.put, List.getElem_toArray, List.getElem_cons_succ, List.getElem_cons_zero, List.setIfInBounds_toArray, List.set_cons_zero, List.set_cons_succ])
      (refine wpAnyH_take (i := 8) (v := ?_) rfl (by kernel_rfl) (by kernel_rfl) (by kernel_rfl) (fun _ _ _ h => h) (Or.inl ⟨by rfl, ?_⟩) (by assumption) ?_; rotate_left; focus (intro w hSw; (try dsimp only at hSw); go_simp; try with_reducible rfl); try simp only [Act.put, List.getElem_toArray, List.getElem_cons_succ, List.getElem_cons_zero, List.setIfInBounds_toArray, List.set_cons_zero, List.set_cons_succ])
      (refine wpAnyH_take (i := 9) (v := ?_) rfl (by kernel_rfl) (by kernel_rfl) (by kernel_rfl) (fun _ _ _ h => h) (Or.inl ⟨by rfl, ?_⟩) (by assumption) ?_; rotate_left; focus (intro w hSw; (try dsimp only at hSw); go_simp; try with_reducible rfl); try simp only [Act.put, List.getElem_toArray, List.getElem_cons_succ, List.getElem_cons_zero, List.setIfInBounds_toArray, List.set_cons_zero, List.set_cons_succ])
      (refine wpAnyH_take (i := 10) (v := ?_) rfl (by kernel_rfl) (by kernel_rfl) (by kernel_rfl) (fun _ _ _ h => h) (Or.inl ⟨by rfl, ?_⟩) (by assumption) ?_; rotate_left; focus (intro w hSw; (try dsimp only at hSw); go_simp; try with_reducible rfl); try simp only [Act.put, List.getElem_toArray, List.getElem_cons_succ, List.getElem_cons_zero, List.setIfInBounds_toArray, List.set_cons_zero, List.set_cons_succ])
      (refine wpAnyH_take (i := 11) (v := ?_) rfl (by kernel_rfl) (by kernel_rfl) (by kernel_rfl) (fun _ _ _ h => h) (Or.inl ⟨by rfl, ?_⟩) (by assumption) ?_; rotate_left; focus (intro w hSw; (try dsimp only at hSw); go_simp; try with_reducible rfl); try simp only [Act.put, List.getElem_toArray, List.getElem_cons_succ, List.getElem_cons_zero, List.setIfInBounds_toArray, List.set_cons_zero, List.set_cons_succ])
      (try simp only [Act.put, List.getElem_toArray, List.getElem_cons_succ, List.getElem_cons_zero, List.setIfInBounds_toArray, List.set_cons_zero, List.set_cons_succ])
      (refine wpAnyH_ready (rs := [12]) (by kernel_rfl) (by simp) ?_; refine AllReadyH.cons rfl (fun K hK => ?_) AllReadyH.nil)
      go_simp
      go_at_call 50
      refine (HIN.out V1).mono ?_
      rintro e V2 ⟨rfl, q⟩
      have D2 := D1.trans q
      refine hK.out _ _ (HS.out _ D2) ?_
      clear hK K
      intro hS1
      (try simp only [Act.put, List.getElem_toArray, List.getElem_cons_succ, List.getElem_cons_zero, List.setIfInBounds_toArray, List.set_cons_zero, List.set_cons_succ])
      (refine wpAnyH_take (i := 13) (v := ?_) rfl (by kernel_rfl) (by kernel_rfl) (by kernel_rfl) (fun _ _ _ h => h) (Or.inl ⟨by rfl, ?_⟩) (by assumption) ?_; rotate_left; focus (intro w hSw; (try dsimp only at hSw); go_simp; try with_reducible rfl); try simp only [Act.put, List.getElem_toArray, List.getElem_cons_succ, List.getElem_cons_zero, List.setIfInBounds_toArray, List.set_cons_zero, List.set_cons_succ])
      (refine wpAnyH_take (i := 14) (v := ?_) rfl (by kernel_rfl) (by kernel_rfl) (by kernel_rfl) (fun _ _ _ h => h) (Or.inl ⟨by rfl, ?_⟩) (by assumption) ?_; rotate_left; focus (intro w hSw; (try dsimp only at hSw); go_simp; try with_reducible rfl); try simp only [Act.put, List.getElem_toArray, List.getElem_cons_succ, List.getElem_cons_zero, List.setIfInBounds_toArray, List.set_cons_zero, List.set_cons_succ])
      (refine wpAnyH_take (i := 15) (v := ?_) rfl (by kernel_rfl) (by kernel_rfl) (by kernel_rfl) (fun _ _ _ h => h) (Or.inl ⟨by rfl, ?_⟩) (by assumption) ?_; rotate_left; focus (intro w hSw; (try dsimp only at hSw); go_simp; try with_reducible rfl); try simp only [Act.put, List.getElem_toArray, List.getElem_cons_succ, List.getElem_cons_zero, List.setIfInBounds_toArray, List.set_cons_zero, List.set_cons_succ])
      (refine wpAnyH_take (i := 16) (v := ?_) rfl (by kernel_rfl) (by kernel_rfl) (by kernel_rfl) (fun _ _ _ h => h) (Or.inl ⟨by rfl, ?_⟩) (by assumption) ?_; rotate_left; focus (intro w hSw; (try dsimp only at hSw); go_simp; try with_reducible rfl); try simp only [Act.put, List.getElem_toArray, List.getElem_cons_succ, List.getElem_cons_zero, List.setIfInBounds_toArray, List.set_cons_zero, List.set_cons_succ])
      (refine wpAnyH_take (i := 17) (v := ?_) rfl (by kernel_rfl) (by kernel_rfl) (by kernel_rfl) (fun _ _ _ h => h) (Or.inl ⟨by rfl, ?_⟩) (by assumption) ?_; rotate_left; focus (intro w hSw; (try dsimp only at hSw); go_simp; try with_reducible rfl); try simp only [Act.put, List.getElem_toArray, List.getElem_cons_succ, List.getElem_cons_zero, List.setIfInBounds_toArray, List.set_cons_zero, List.set_cons_succ])
      refine wpAnyH_done (by kernel_rfl) ?_ _
      have HE := Lib.hid (E4.trans D2)
      have HKV := Lib.hid (KV.ext D2)
      clear hS1 hS0 D0 D1 D2 q E4 KA KB KV HS HI0
      cases hin : Pl.inVal f.dst c.pre c.len
      case false =>
        rw [hin, if_neg Bool.false_ne_true] at HW
        clear hin
        go_wp2_with fail
        go_returns
        exact whereGot_no HW.out (by decide) rfl HE.out
      case true =>
        rw [hin, if_pos rfl] at HW
        clear hin
        go_wp2_with fail
        go_returns
        exact whereGot_yes HW.out (.inr ⟨HV.out, _, rfl, HKV.out⟩) HE.out
end Go.Proofs.YtbjogkpepfgegaaGreatDoor
