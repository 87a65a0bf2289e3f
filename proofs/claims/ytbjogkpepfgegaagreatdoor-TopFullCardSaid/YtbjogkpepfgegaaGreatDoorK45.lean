/- gate.bind, of a flow whose stream gets no head. Conditions: as each lemma states them. -/
import Derived.Test.YtbjogkpepfgegaaGreatDoorK41
import Derived.Test.YtbjogkpepfgegaaGreatDoorK44
namespace Go.Proofs.YtbjogkpepfgegaaGreatDoor
open Go.RowKit
theorem flag18 {f : Int} (h0 : 0 ≤ f) (h1 : f ≤ 31) : (bits .and .i64 f 18 != 2) = !(decide (f / 2 % 2 = 1) && decide (f / 16 % 2 = 0)) := by
  obtain ⟨n, rfl⟩ : ∃ n : Nat, f = n := ⟨f.toNat, by omega⟩
  have : ∀ k : Fin 32, (bits .and .i64 (k.val : Int) 18 != 2) = !(decide ((k.val : Int) / 2 % 2 = 1) && decide ((k.val : Int) / 16 % 2 = 0)) := by decide +kernel
  exact this ⟨n, by omega⟩
def BindGot (w : World) (G : GG) (c : Cfg) (bs : List Pl.Back) (now : Int) (R : GB) (e : Ending) (w' : World) : Prop :=
  e = .returned (.tuple #[R.b.v, erv R.q]) ∧ GW w' G c bs R.s R.B now ∧ Kp G.T.mut w w'
theorem gMade_q (f : Flow) (A W now : Int) (s : PS) (B : List Bd) : (gMade f A W now s B).q = bMakeQ f A W now s B := by
  unfold gMade
  split
  · rename_i h; exact h.symm
  · rfl
theorem gmake_any (G : GG) (c : Cfg) (bs : List Pl.Back) (s : PS) (B : List Bd) (now : Int) (f : Flow) (A W : Int) (w : World) (h : GW w G c bs s B now) :
    Calls Tryz.prog 68 #[.pointer (some ⟨G.T.gT, 0, none⟩), f.v, .int .i64 A, .int .i64 W, .int .i64 now] w (BindGot w G c bs now (gMade f A W now s B)) := by
  refine (make_any G.T s B f A W now w h.tab).mono ?_
  rintro e w' ⟨rfl, t, k⟩
  by_cases hq : bMakeQ f A W now s B = 0
  · have e : gMade f A W now s B = ⟨0, newBd f A W now s, s.take f.client, insB (newBd f A W now s) B⟩ := by unfold gMade; rw [if_pos hq]
    rw [if_pos hq, if_pos hq] at t
    rw [e, if_pos hq, hq]
    exact ⟨rfl, h.turn k t, k⟩
  · have e : gMade f A W now s B = ⟨bMakeQ f A W now s B, zeroBd, s, B⟩ := by unfold gMade; rw [if_neg hq]
    rw [if_neg hq, if_neg hq] at t
    rw [e, if_neg hq]
    exact ⟨rfl, h.turn k t, k⟩
set_option maxRecDepth 100000 in
set_option maxHeartbeats 4000000 in
theorem gbind_any (G : GG) (c : Cfg) (bs : List Pl.Back) (s : PS) (B : List Bd) (now : Int) (f : Flow) (sg : Sg) (a : Option Addr) (n m : Nat) (t : Value) (w : World) (h : GW w G c bs s B now) (hok : CfgOk c bs) (hf : okF f = true) (hk : sg.kind = f.kind) (hfl : 0 ≤ sg.flags ∧ sg.flags ≤ 31) (hL : Leads w G c f t) (hh : gHead c f = false) :
    Calls Tryz.prog 31 #[.pointer (some ⟨G.g, 0, none⟩), f.v, sg.v (.slice a n m), t] w (BindGot w G c bs now (gBind c bs s B now f sg.flags)) := by
  have K0 := ((Blk.new w 50 f.cells).alloc (.cells (sg.cells (.slice a n m)) 40)).alloc (.cells #[.int .i64 0, .int .i64 0, .int .i64 0, .int .i64 0, .int .i64 0, .int .i64 0, .int .i64 0, .int .i64 0, .int .i64 0, .int .i64 0, .int .i64 0, .int .i64 0, .int .i64 0, .int .i64 0, .int .i64 0, .int .i64 0, .int .i64 0, .int .i64 0, .int .i64 0, .int .i64 0, .int .i64 0, .int .i64 0, .int .i64 0] 52)
  have K1 := (Blk.at (n := w.heap.size + 1) (w.alloc (.cells f.cells 50)) 40 (sg.cells (.slice a n m)) (by simp)).alloc (.cells #[.int .i64 0, .int .i64 0, .int .i64 0, .int .i64 0, .int .i64 0, .int .i64 0, .int .i64 0, .int .i64 0, .int .i64 0, .int .i64 0, .int .i64 0, .int .i64 0, .int .i64 0, .int .i64 0, .int .i64 0, .int .i64 0, .int .i64 0, .int .i64 0, .int .i64 0, .int .i64 0, .int .i64 0, .int .i64 0, .int .i64 0] 52)
  have K2 := Blk.at (n := w.heap.size + 2) ((w.alloc (.cells f.cells 50)).alloc (.cells (sg.cells (.slice a n m)) 40)) 52 #[.int .i64 0, .int .i64 0, .int .i64 0, .int .i64 0, .int .i64 0, .int .i64 0, .int .i64 0, .int .i64 0, .int .i64 0, .int .i64 0, .int .i64 0, .int .i64 0, .int .i64 0, .int .i64 0, .int .i64 0, .int .i64 0, .int .i64 0, .int .i64 0, .int .i64 0, .int .i64 0, .int .i64 0, .int .i64 0, .int .i64 0] (by simp)
  have E0 := (((Ext.refl w).alloc (.cells f.cells 50)).alloc (.cells (sg.cells (.slice a n m)) 40)).alloc (.cells #[.int .i64 0, .int .i64 0, .int .i64 0, .int .i64 0, .int .i64 0, .int .i64 0, .int .i64 0, .int .i64 0, .int .i64 0, .int .i64 0, .int .i64 0, .int .i64 0, .int .i64 0, .int .i64 0, .int .i64 0, .int .i64 0, .int .i64 0, .int .i64 0, .int .i64 0, .int .i64 0, .int .i64 0, .int .i64 0, .int .i64 0] 52)
  have HG := Lib.hid (fun w' (E : Ext w w') => h.ext E)
  have HOK := Lib.hid hok
  have HFO := Lib.hid hf
  have HL := Lib.hid hL
  have HH := Lib.hid hh
  have HFL := Lib.hid (flag18 hfl.1 hfl.2)
  have HMUT := Lib.hid (fun g (hm : g ∈ G.T.mut) => h.lt g (by simp [GG.all, TG.mut_all _ _ hm]))
  have HSZ := Lib.hid h
  clear h hok hf hL hh
  go_enter Tryz.func31, Tryz.ntmps31
  go_upto_region 1 with (fail)
  refine at_worldE (fun W => Ext w W ∧ Blk W w.heap.size 50 f.cells ∧ Blk W (w.heap.size + 1) 40 (sg.cells (.slice a n m)) ∧ Blk W (w.heap.size + 2) 52 #[.int .i64 0, .int .i64 0, .int .i64 0, .int .i64 0, .int .i64 0, .int .i64 0, .int .i64 0, .int .i64 0, .int .i64 0, .int .i64 0, .int .i64 0, .int .i64 0, .int .i64 0, .int .i64 0, .int .i64 0, .int .i64 0, .int .i64 0, .int .i64 0, .int .i64 0, .int .i64 0, .int .i64 0, .int .i64 0, .int .i64 0]) ⟨E0, K0, K1, K2⟩ ?_
  clear E0 K0 K1 K2
  rintro W1 ⟨E1, K0, K1, K2⟩
  have HF := Lib.hid (fun V (E : Ext W1 V) => find_any G.T s B f V (HG.out V (E1.trans E)).tab)
  have HS := Lib.hid (fun V (E : Ext W1 V) => (show V.cell? ⟨G.g, 23, none⟩ = some (.pointer (some ⟨G.T.gT, 0, none⟩)) ∧ Blk V w.heap.size 50 f.cells from ⟨(HG.out V (E1.trans E)).nums.2.2.2.2.2.2.1, K0.ext E⟩))
  have HX := Lib.hid (show bFind f B = (findF f B).getD zeroBd by unfold bFind; rw [if_pos HFO.out])
  have HQ := Lib.hid (show bFindQ f B = if (findF f B).isSome = true then 0 else 4 by unfold bFindQ; rw [if_pos HFO.out])
  generalize bFind f B = X at *
  generalize bFindQ f B = Q at *
  have D0 : Ext W1 W1.drew := (Ext.refl W1).drew
  go_cut [10, 11] (fun p er wc => ∃ g, p = .pointer (some ⟨g, 0, none⟩) ∧ er = erv Q ∧ W1.heap.size ≤ g ∧ Blk wc g 52 X.cells ∧ Ext W1 wc)
  case first =>
    have HS0 := HS.out _ D0
    refine wp_region_held_drew (S := (fun V => V.cell? ⟨G.g, 23, none⟩ = some (.pointer (some ⟨G.T.gT, 0, none⟩)) ∧ Blk V w.heap.size 50 f.cells)) (by kernel_rfl) HS0 (fun hS0 => ?_)
    clear HS0
    have D1 := D0
    generalize W1.drew = V1 at *
    (refine wpAnyH_take (i := 0) (v := ?_) rfl (by kernel_rfl) (by kernel_rfl) (by kernel_rfl) (fun _ _ _ h => h) (Or.inl ⟨by rfl, ?_⟩) (by assumption) ?_; rotate_left; focus (intro w hSw; (try dsimp only at hSw); go_simp; try with_reducible rfl); try simp only [Act.put, List.getElem_toArray, List.getElem_cons_succ, List.getElem_cons_zero, List.setIfInBounds_toArray, List.set_cons_zero, List.set_cons_succ])
    (refine wpAnyH_take (i := 1) (v := ?_) rfl (by kernel_rfl) (by kernel_rfl) (by kernel_rfl) (fun _ _ _ h => h) (Or.inl ⟨by rfl, ?_⟩) (by assumption) ?_; rotate_left; focus (intro w hSw; (try dsimp only at hSw); go_simp; try with_reducible rfl); try simp only [Act.put, List.getElem_toArray, List.getElem_cons_succ, List.getElem_cons_zero, List.setIfInBounds_toArray, List.set_cons_zero, List.set_cons_succ])
    (refine wpAnyH_take (i := 2) (v := ?_) rfl (by kernel_rfl) (by kernel_rfl) (by kernel_rfl) (fun _ _ _ h => h) (Or.inl ⟨by rfl, ?_⟩) (by assumption) ?_; rotate_left; focus (intro w hSw; (try dsimp only at hSw); go_simp; try with_reducible rfl); try simp only [Act.put, List.getElem_toArray, List.getElem_cons_succ, List.getElem_cons_zero, List.setIfInBounds_toArray, List.set_cons_zero, List.set_cons_succ])
    (refine wpAnyH_take (i := 3) (v := ?_) rfl (by kernel_rfl) (by kernel_rfl) (by kernel_rfl) (fun _ _ _ h => h) (Or.inl ⟨by rfl, ?_⟩) (by assumption) ?_; rotate_left; focus (intro w hSw; (try dsimp only at hSw); go_simp; try with_reducible rfl); try simp only [Act.put, List.getElem_toArray, List.getElem_cons_succ, List.getElem_cons_zero, List.setIfInBounds_toArray, List.set_cons_zero, List.set_cons_succ])
    refine wpAnyH_take (i := 4) rfl (by kernel_rfl) (by kernel_rfl) (by kernel_rfl) (fun _ _ _ h => h) (Or.inl ⟨by rfl, fun W hS => exec_load rfl rfl (loaFl hS.2)⟩) (by assumption) ?_
    (try simp only [Act.put, List.getElem_toArray, List.getElem_cons_succ, List.getElem_cons_zero, List.setIfInBounds_toArray, List.set_cons_zero, List.set_cons_succ])
    (try simp only [Act.put, List.getElem_toArray, List.getElem_cons_succ, List.getElem_cons_zero, List.setIfInBounds_toArray, List.set_cons_zero, List.set_cons_succ])
    refine wpAnyH_ready (rs := [5, 9]) (by kernel_rfl) (by simp) ?_
    refine AllReadyH.cons rfl (fun K hK => ?_) (AllReadyH.cons rfl (fun K hK => ?_) AllReadyH.nil)
    · go_simp
      go_at_call 67
      refine (HF.out V1 D1).mono ?_
      rintro e V2 ⟨rfl, q⟩
      have D2 := D1.trans q
      refine hK.out _ _ (HS.out _ D2) ?_
      clear hK K
      intro hS1
      (try simp only [Act.put, List.getElem_toArray, List.getElem_cons_succ, List.getElem_cons_zero, List.setIfInBounds_toArray, List.set_cons_zero, List.set_cons_succ])
      (refine wpAnyH_take (i := 6) (v := ?_) rfl (by kernel_rfl) (by kernel_rfl) (by kernel_rfl) (fun _ _ _ h => h) (Or.inl ⟨by rfl, ?_⟩) (by assumption) ?_; rotate_left; focus (intro w hSw; (try dsimp only at hSw); go_simp; try with_reducible rfl); try simp only [Act.put, List.getElem_toArray, List.getElem_cons_succ, List.getElem_cons_zero, List.setIfInBounds_toArray, List.set_cons_zero, List.set_cons_succ])
      (refine wpAnyH_take (i := 7) (v := ?_) rfl (by kernel_rfl) (by kernel_rfl) (by kernel_rfl) (fun _ _ _ h => h) (Or.inl ⟨by rfl, ?_⟩) (by assumption) ?_; rotate_left; focus (intro w hSw; (try dsimp only at hSw); go_simp; try with_reducible rfl); try simp only [Act.put, List.getElem_toArray, List.getElem_cons_succ, List.getElem_cons_zero, List.setIfInBounds_toArray, List.set_cons_zero, List.set_cons_succ])
      (refine wpAnyH_take (i := 8) (v := ?_) rfl (by kernel_rfl) (by kernel_rfl) (by kernel_rfl) (fun _ _ _ h => h) (Or.inl ⟨by rfl, ?_⟩) (by assumption) ?_; rotate_left; focus (intro w hSw; (try dsimp only at hSw); go_simp; try with_reducible rfl); try simp only [Act.put, List.getElem_toArray, List.getElem_cons_succ, List.getElem_cons_zero, List.setIfInBounds_toArray, List.set_cons_zero, List.set_cons_succ])
      (refine wpAnyH_ready (rs := [9]) (by kernel_rfl) (by simp) ?_; refine AllReadyH.cons rfl (fun K hK => ?_) AllReadyH.nil)
      go_simp
      have KG := Blk.new V2 52 #[.int .i64 0, .int .i64 0, .int .i64 0, .int .i64 0, .int .i64 0, .int .i64 0, .int .i64 0, .int .i64 0, .int .i64 0, .int .i64 0, .int .i64 0, .int .i64 0, .int .i64 0, .int .i64 0, .int .i64 0, .int .i64 0, .int .i64 0, .int .i64 0, .int .i64 0, .int .i64 0, .int .i64 0, .int .i64 0, .int .i64 0]
      have D3 := D2.alloc (.cells #[.int .i64 0, .int .i64 0, .int .i64 0, .int .i64 0, .int .i64 0, .int .i64 0, .int .i64 0, .int .i64 0, .int .i64 0, .int .i64 0, .int .i64 0, .int .i64 0, .int .i64 0, .int .i64 0, .int .i64 0, .int .i64 0, .int .i64 0, .int .i64 0, .int .i64 0, .int .i64 0, .int .i64 0, .int .i64 0, .int .i64 0] 52)
      have hge : W1.heap.size ≤ V2.heap.size := D2.size
      refine hK.out _ _ (HS.out _ D3) ?_
      clear hK K
      intro hS2
      clear D2
      generalize V2.alloc (.cells #[.int .i64 0, .int .i64 0, .int .i64 0, .int .i64 0, .int .i64 0, .int .i64 0, .int .i64 0, .int .i64 0, .int .i64 0, .int .i64 0, .int .i64 0, .int .i64 0, .int .i64 0, .int .i64 0, .int .i64 0, .int .i64 0, .int .i64 0, .int .i64 0, .int .i64 0, .int .i64 0, .int .i64 0, .int .i64 0, .int .i64 0] 52) = V3 at *
      generalize V2.heap.size = g at *
      (try simp only [Act.put, List.getElem_toArray, List.getElem_cons_succ, List.getElem_cons_zero, List.setIfInBounds_toArray, List.set_cons_zero, List.set_cons_succ])
      (refine wpAnyH_ready (rs := [10]) (by kernel_rfl) (by simp) ?_; refine AllReadyH.cons rfl (fun K hK => ?_) AllReadyH.nil)
      rw [if_pos (by rfl)]
      refine wp_store_at _ _ _ rfl _ rfl (stoBd KG X) rfl ?_
      have KH := KG.row X.cells
      have D9 := D3.row hge X.cells
      refine hK.out _ _ (HS.out _ D9) ?_
      clear hK K
      intro hS3
      (try simp only [Act.put, List.getElem_toArray, List.getElem_cons_succ, List.getElem_cons_zero])
      (refine wpAnyH_take (i := 11) (v := ?_) rfl (by kernel_rfl) (by kernel_rfl) (by kernel_rfl) (fun _ _ _ h => h) (Or.inl ⟨by rfl, ?_⟩) (by assumption) ?_; rotate_left; focus (intro w hSw; (try dsimp only at hSw); go_simp; try with_reducible rfl); try simp only [Act.put, List.getElem_toArray, List.getElem_cons_succ, List.getElem_cons_zero, List.setIfInBounds_toArray, List.set_cons_zero, List.set_cons_succ])
      (try simp only [Act.put, List.getElem_toArray, List.getElem_cons_succ, List.getElem_cons_zero, List.setIfInBounds_toArray, List.set_cons_zero, List.set_cons_succ])
      refine wpAnyH_done (by kernel_rfl) ?_ _
      go_wp2_with fail
      go_meet
      exact ⟨g, rfl, rfl, hge, KH, D9⟩
    · go_simp
      have KG := Blk.new V1 52 #[.int .i64 0, .int .i64 0, .int .i64 0, .int .i64 0, .int .i64 0, .int .i64 0, .int .i64 0, .int .i64 0, .int .i64 0, .int .i64 0, .int .i64 0, .int .i64 0, .int .i64 0, .int .i64 0, .int .i64 0, .int .i64 0, .int .i64 0, .int .i64 0, .int .i64 0, .int .i64 0, .int .i64 0, .int .i64 0, .int .i64 0]
      have D2 := D1.alloc (.cells #[.int .i64 0, .int .i64 0, .int .i64 0, .int .i64 0, .int .i64 0, .int .i64 0, .int .i64 0, .int .i64 0, .int .i64 0, .int .i64 0, .int .i64 0, .int .i64 0, .int .i64 0, .int .i64 0, .int .i64 0, .int .i64 0, .int .i64 0, .int .i64 0, .int .i64 0, .int .i64 0, .int .i64 0, .int .i64 0, .int .i64 0] 52)
      have hge : W1.heap.size ≤ V1.heap.size := D1.size
      refine hK.out _ _ (HS.out _ D2) ?_
      clear hK K
      intro hS2
      clear D1
      generalize V1.alloc (.cells #[.int .i64 0, .int .i64 0, .int .i64 0, .int .i64 0, .int .i64 0, .int .i64 0, .int .i64 0, .int .i64 0, .int .i64 0, .int .i64 0, .int .i64 0, .int .i64 0, .int .i64 0, .int .i64 0, .int .i64 0, .int .i64 0, .int .i64 0, .int .i64 0, .int .i64 0, .int .i64 0, .int .i64 0, .int .i64 0, .int .i64 0] 52) = V2 at *
      generalize V1.heap.size = g at *
      (try simp only [Act.put, List.getElem_toArray, List.getElem_cons_succ, List.getElem_cons_zero, List.setIfInBounds_toArray, List.set_cons_zero, List.set_cons_succ])
      (refine wpAnyH_ready (rs := [5]) (by kernel_rfl) (by simp) ?_; refine AllReadyH.cons rfl (fun K hK => ?_) AllReadyH.nil)
      go_simp
      go_at_call 67
      refine (HF.out V2 D2).mono ?_
      rintro e V3 ⟨rfl, q⟩
      have D3 := D2.trans q
      replace KG := KG.ext q
      refine hK.out _ _ (HS.out _ D3) ?_
      clear hK K
      intro hS1
      (try simp only [Act.put, List.getElem_toArray, List.getElem_cons_succ, List.getElem_cons_zero, List.setIfInBounds_toArray, List.set_cons_zero, List.set_cons_succ])
      (refine wpAnyH_take (i := 6) (v := ?_) rfl (by kernel_rfl) (by kernel_rfl) (by kernel_rfl) (fun _ _ _ h => h) (Or.inl ⟨by rfl, ?_⟩) (by assumption) ?_; rotate_left; focus (intro w hSw; (try dsimp only at hSw); go_simp; try with_reducible rfl); try simp only [Act.put, List.getElem_toArray, List.getElem_cons_succ, List.getElem_cons_zero, List.setIfInBounds_toArray, List.set_cons_zero, List.set_cons_succ])
      (refine wpAnyH_take (i := 7) (v := ?_) rfl (by kernel_rfl) (by kernel_rfl) (by kernel_rfl) (fun _ _ _ h => h) (Or.inl ⟨by rfl, ?_⟩) (by assumption) ?_; rotate_left; focus (intro w hSw; (try dsimp only at hSw); go_simp; try with_reducible rfl); try simp only [Act.put, List.getElem_toArray, List.getElem_cons_succ, List.getElem_cons_zero, List.setIfInBounds_toArray, List.set_cons_zero, List.set_cons_succ])
      (refine wpAnyH_take (i := 8) (v := ?_) rfl (by kernel_rfl) (by kernel_rfl) (by kernel_rfl) (fun _ _ _ h => h) (Or.inl ⟨by rfl, ?_⟩) (by assumption) ?_; rotate_left; focus (intro w hSw; (try dsimp only at hSw); go_simp; try with_reducible rfl); try simp only [Act.put, List.getElem_toArray, List.getElem_cons_succ, List.getElem_cons_zero, List.setIfInBounds_toArray, List.set_cons_zero, List.set_cons_succ])
      (refine wpAnyH_ready (rs := [10]) (by kernel_rfl) (by simp) ?_; refine AllReadyH.cons rfl (fun K hK => ?_) AllReadyH.nil)
      rw [if_pos (by rfl)]
      refine wp_store_at _ _ _ rfl _ rfl (stoBd KG X) rfl ?_
      have KH := KG.row X.cells
      have D9 := D3.row hge X.cells
      refine hK.out _ _ (HS.out _ D9) ?_
      clear hK K
      intro hS3
      (try simp only [Act.put, List.getElem_toArray, List.getElem_cons_succ, List.getElem_cons_zero])
      (refine wpAnyH_take (i := 11) (v := ?_) rfl (by kernel_rfl) (by kernel_rfl) (by kernel_rfl) (fun _ _ _ h => h) (Or.inl ⟨by rfl, ?_⟩) (by assumption) ?_; rotate_left; focus (intro w hSw; (try dsimp only at hSw); go_simp; try with_reducible rfl); try simp only [Act.put, List.getElem_toArray, List.getElem_cons_succ, List.getElem_cons_zero, List.setIfInBounds_toArray, List.set_cons_zero, List.set_cons_succ])
      (try simp only [Act.put, List.getElem_toArray, List.getElem_cons_succ, List.getElem_cons_zero, List.setIfInBounds_toArray, List.set_cons_zero, List.set_cons_succ])
      refine wpAnyH_done (by kernel_rfl) ?_ _
      go_wp2_with fail
      go_meet
      exact ⟨g, rfl, rfl, hge, KH, D9⟩
  obtain ⟨g, rfl, rfl, hgl, KX, q2⟩ := hcut
  have E2 := E1.trans q2
  have hW1 := K2.lt
  have hG1 : ∀ k ∈ G.all, k < w.heap.size := HSZ.out.lt
  have hg0 : G.g ∉ G.T.mut := fun hm => by
    have ha := HSZ.out.apart
    simp only [GG.all, List.nodup_cons] at ha
    exact ha.1 (by simp [TG.mut_all _ _ hm])
  have hgG : G.g < w.heap.size := hG1 _ (by simp [GG.all])
  clear hG1
  replace K0 := K0.ext q2
  replace K1 := K1.ext q2
  replace K2 := K2.ext q2
  clear HS HF D0 q2 E1
  cases hff : findF f B with
  | some b =>
    have HXb : X = b := by rw [HX.out, hff]; rfl
    have HQb : Q = 0 := by rw [HQ.out, hff]; rfl
    have HR := Lib.hid (show gBind c bs s B now f sg.flags = gUse b s B now by unfold gBind; rw [hff])
    subst HXb
    subst HQb
    rw [erv_zero]
    clear hff HX HQ
    go_upto_region 3 with (fail)
    refine at_worldE (fun W => Ext w W ∧ Blk W g 52 X.cells ∧ Blk W (w.heap.size + 2) 52 #[.int .i64 0, .int .i64 0, .int .i64 0, .int .i64 0, .int .i64 0, .int .i64 0, .int .i64 0, .int .i64 0, .int .i64 0, .int .i64 0, .int .i64 0, .int .i64 0, .int .i64 0, .int .i64 0, .int .i64 0, .int .i64 0, .int .i64 0, .int .i64 0, .int .i64 0, .int .i64 0, .int .i64 0, .int .i64 0, .int .i64 0]) ⟨E2, KX, K2⟩ ?_
    clear E2 KX K0 K1 K2
    rintro W3 ⟨E3, KX, K2⟩
    have HU := Lib.hid (fun V (E : Ext W3 V) => use_any G.T s B X.near now V (HG.out V (E3.trans E)).tab)
    have hl2 := K2.lt
    have HS := Lib.hid (fun V (E : Kp G.T.mut W3 V) => (show V.cell? ⟨G.g, 23, none⟩ = some (.pointer (some ⟨G.T.gT, 0, none⟩)) ∧ V.cell? ⟨G.g, 25, none⟩ = some (.int .i64 now) ∧ Blk V g 52 X.cells ∧ V.cell? ⟨g, 19, none⟩ = some (.int .i64 X.near) from by
      have kb := (HG.out W3 E3).blk.kp E hg0
      have kg := KX.kp E (fun hm => by have := HMUT.out _ hm; omega)
      exact ⟨kb.cells 23, kb.cells 25, kg, kg.cells 19⟩))
    have D0 : Kp G.T.mut W3 W3.drew := (Kp.refl _ W3).drew
    have e0 : Ext W3 W3.drew := (Ext.refl W3).drew
    have HS0 := HS.out _ D0
    refine wp_region_held_drew (S := (fun V => V.cell? ⟨G.g, 23, none⟩ = some (.pointer (some ⟨G.T.gT, 0, none⟩)) ∧ V.cell? ⟨G.g, 25, none⟩ = some (.int .i64 now) ∧ Blk V g 52 X.cells ∧ V.cell? ⟨g, 19, none⟩ = some (.int .i64 X.near))) (by kernel_rfl) HS0 (fun hS0 => ?_)
    clear HS0
    generalize W3.drew = V1 at *
    (refine wpAnyH_take (i := 1) (v := ?_) rfl (by kernel_rfl) (by kernel_rfl) (by kernel_rfl) (fun _ _ _ h => h) (Or.inl ⟨by rfl, ?_⟩) (by assumption) ?_; rotate_left; focus (intro w hSw; (try dsimp only at hSw); go_simp; try with_reducible rfl); try simp only [Act.put, List.getElem_toArray, List.getElem_cons_succ, List.getElem_cons_zero, List.setIfInBounds_toArray, List.set_cons_zero, List.set_cons_succ])
    (refine wpAnyH_take (i := 2) (v := ?_) rfl (by kernel_rfl) (by kernel_rfl) (by kernel_rfl) (fun _ _ _ h => h) (Or.inl ⟨by rfl, ?_⟩) (by assumption) ?_; rotate_left; focus (intro w hSw; (try dsimp only at hSw); go_simp; try with_reducible rfl); try simp only [Act.put, List.getElem_toArray, List.getElem_cons_succ, List.getElem_cons_zero, List.setIfInBounds_toArray, List.set_cons_zero, List.set_cons_succ])
    (refine wpAnyH_take (i := 3) (v := ?_) rfl (by kernel_rfl) (by kernel_rfl) (by kernel_rfl) (fun _ _ _ h => h) (Or.inl ⟨by rfl, ?_⟩) (by assumption) ?_; rotate_left; focus (intro w hSw; (try dsimp only at hSw); go_simp; try with_reducible rfl); try simp only [Act.put, List.getElem_toArray, List.getElem_cons_succ, List.getElem_cons_zero, List.setIfInBounds_toArray, List.set_cons_zero, List.set_cons_succ])
    (refine wpAnyH_take (i := 5) (v := ?_) rfl (by kernel_rfl) (by kernel_rfl) (by kernel_rfl) (fun _ _ _ h => h) (Or.inl ⟨by rfl, ?_⟩) (by assumption) ?_; rotate_left; focus (intro w hSw; (try dsimp only at hSw); go_simp; try with_reducible rfl); try simp only [Act.put, List.getElem_toArray, List.getElem_cons_succ, List.getElem_cons_zero, List.setIfInBounds_toArray, List.set_cons_zero, List.set_cons_succ])
    (refine wpAnyH_take (i := 7) (v := ?_) rfl (by kernel_rfl) (by kernel_rfl) (by kernel_rfl) (fun _ _ _ h => h) (Or.inl ⟨by rfl, ?_⟩) (by assumption) ?_; rotate_left; focus (intro w hSw; (try dsimp only at hSw); go_simp; try with_reducible rfl); try simp only [Act.put, List.getElem_toArray, List.getElem_cons_succ, List.getElem_cons_zero, List.setIfInBounds_toArray, List.set_cons_zero, List.set_cons_succ])
    (refine wpAnyH_take (i := 8) (v := ?_) rfl (by kernel_rfl) (by kernel_rfl) (by kernel_rfl) (fun _ _ _ h => h) (Or.inl ⟨by rfl, ?_⟩) (by assumption) ?_; rotate_left; focus (intro w hSw; (try dsimp only at hSw); go_simp; try with_reducible rfl); try simp only [Act.put, List.getElem_toArray, List.getElem_cons_succ, List.getElem_cons_zero, List.setIfInBounds_toArray, List.set_cons_zero, List.set_cons_succ])
    (refine wpAnyH_take (i := 9) (v := ?_) rfl (by kernel_rfl) (by kernel_rfl) (by kernel_rfl) (fun _ _ _ h => h) (Or.inl ⟨by rfl, ?_⟩) (by assumption) ?_; rotate_left; focus (intro w hSw; (try dsimp only at hSw); go_simp; try with_reducible rfl); try simp only [Act.put, List.getElem_toArray, List.getElem_cons_succ, List.getElem_cons_zero, List.setIfInBounds_toArray, List.set_cons_zero, List.set_cons_succ])
    refine wpAnyH_take (i := 0) rfl (by kernel_rfl) (by kernel_rfl) (by kernel_rfl) (fun _ _ _ h => h) (Or.inl ⟨by rfl, fun W hS => exec_load rfl rfl (loaBd hS.2.2.1)⟩) (by assumption) ?_
    (try simp only [Act.put, List.getElem_toArray, List.getElem_cons_succ, List.getElem_cons_zero, List.setIfInBounds_toArray, List.set_cons_zero, List.set_cons_succ])
    (refine wpAnyH_take (i := 4) (v := ?_) rfl (by kernel_rfl) (by kernel_rfl) (by kernel_rfl) (fun _ _ _ h => h) (Or.inl ⟨by rfl, ?_⟩) (by assumption) ?_; rotate_left; focus (intro w hSw; (try dsimp only at hSw); go_simp; try with_reducible rfl); try simp only [Act.put, List.getElem_toArray, List.getElem_cons_succ, List.getElem_cons_zero, List.setIfInBounds_toArray, List.set_cons_zero, List.set_cons_succ])
    (refine wpAnyH_take (i := 6) (v := ?_) rfl (by kernel_rfl) (by kernel_rfl) (by kernel_rfl) (fun _ _ _ h => h) (Or.inl ⟨by rfl, ?_⟩) (by assumption) ?_; rotate_left; focus (intro w hSw; (try dsimp only at hSw); go_simp; try with_reducible rfl); try simp only [Act.put, List.getElem_toArray, List.getElem_cons_succ, List.getElem_cons_zero, List.setIfInBounds_toArray, List.set_cons_zero, List.set_cons_succ])
    (refine wpAnyH_take (i := 10) (v := ?_) rfl (by kernel_rfl) (by kernel_rfl) (by kernel_rfl) (fun _ _ _ h => h) (Or.inl ⟨by rfl, ?_⟩) (by assumption) ?_; rotate_left; focus (intro w hSw; (try dsimp only at hSw); go_simp; try with_reducible rfl); try simp only [Act.put, List.getElem_toArray, List.getElem_cons_succ, List.getElem_cons_zero, List.setIfInBounds_toArray, List.set_cons_zero, List.set_cons_succ])
    (try simp only [Act.put, List.getElem_toArray, List.getElem_cons_succ, List.getElem_cons_zero, List.setIfInBounds_toArray, List.set_cons_zero, List.set_cons_succ])
    (refine wpAnyH_ready (rs := [11]) (by kernel_rfl) (by simp) ?_; refine AllReadyH.cons rfl (fun K hK => ?_) AllReadyH.nil)
    go_simp
    go_at_call 43
    refine (HU.out V1 e0).mono ?_
    rintro e V2 ⟨rfl, t2, q⟩
    have D2 := D0.trans q
    refine hK.out _ _ (HS.out _ D2) ?_
    clear hK K
    intro hS1
    (try simp only [Act.put, List.getElem_toArray, List.getElem_cons_succ, List.getElem_cons_zero, List.setIfInBounds_toArray, List.set_cons_zero, List.set_cons_succ])
    (refine wpAnyH_ready (rs := [12]) (by kernel_rfl) (by simp) ?_; refine AllReadyH.cons rfl (fun K hK => ?_) AllReadyH.nil)
    rw [if_pos (by rfl)]
    have KR := (K2.kp D2 (fun hm => by have := HMUT.out _ hm; omega))
    refine wp_store_at _ _ _ rfl _ rfl (stoBd KR X) rfl ?_
    have KF := KR.row X.cells
    have kw : Kp G.T.mut w (V2.setRow (w.heap.size + 2) X.cells) := ((E3.kp _).trans D2).row (by omega) X.cells
    have gw : GW (V2.setRow (w.heap.size + 2) X.cells) G c bs (gUse X s B now).s (gUse X s B now).B now := (((HG.out V1 (E3.trans e0)).turn q t2).rowN HSZ.out (by omega) X.cells)
    have kb2 := ((HG.out W3 E3).blk.kp D2 hg0).farRow (k := w.heap.size + 2) (by omega) X.cells
    have kx2 := (KX.kp D2 (fun hm => by have := HMUT.out _ hm; omega)).farRow (k := w.heap.size + 2) (by omega) X.cells
    have hS4 : (fun V => V.cell? ⟨G.g, 23, none⟩ = some (.pointer (some ⟨G.T.gT, 0, none⟩)) ∧ V.cell? ⟨G.g, 25, none⟩ = some (.int .i64 now) ∧ Blk V g 52 X.cells ∧ V.cell? ⟨g, 19, none⟩ = some (.int .i64 X.near)) (V2.setRow (w.heap.size + 2) X.cells) := ⟨kb2.cells 23, kb2.cells 25, kx2, kx2.cells 19⟩
    refine hK.out _ _ hS4 ?_
    clear hK K
    intro hS5
    (try simp only [Act.put, List.getElem_toArray, List.getElem_cons_succ, List.getElem_cons_zero])
    (refine wpAnyH_take (i := 13) (v := ?_) rfl (by kernel_rfl) (by kernel_rfl) (by kernel_rfl) (fun _ _ _ h => h) (Or.inl ⟨by rfl, ?_⟩) (by assumption) ?_; rotate_left; focus (intro w hSw; (try dsimp only at hSw); go_simp; try with_reducible rfl); try simp only [Act.put, List.getElem_toArray, List.getElem_cons_succ, List.getElem_cons_zero, List.setIfInBounds_toArray, List.set_cons_zero, List.set_cons_succ])
    (try simp only [Act.put, List.getElem_toArray, List.getElem_cons_succ, List.getElem_cons_zero, List.setIfInBounds_toArray, List.set_cons_zero, List.set_cons_succ])
    refine wpAnyH_done (by kernel_rfl) ?_ _
    go_wp2_with fail
    rw [HR.out]
    refine bodyPost_ret (results_cell2 Tryz.results31 _ _ (w.heap.size + 2) 52 X.cells _ rfl KF Tryz.underlying52 rfl Tryz.sizeBd) rfl ⟨rfl, gw, kw⟩
  | none =>
    have HXb : X = zeroBd := by rw [HX.out, hff]; rfl
    have HQb : Q = 4 := by rw [HQ.out, hff]; rfl
    have HR := Lib.hid (show gBind c bs s B now f sg.flags = gNew c bs s B now f sg.flags by unfold gBind; rw [hff])
    subst HXb
    subst HQb
    rw [show erv 4 = errv 4 from rfl]
    unfold errv
    obtain ⟨c0, _, _, _, _, c5, _⟩ := K1.sg
    rw [hk] at c0
    clear hff HX HQ
    cases hsyn : gSyn f.kind sg.flags
    case false =>
      have hk6 : (f.kind == 6) = true ∧ (bits .and .i64 sg.flags 18 != 2) = true := by
        have h1 := HFL.out
        unfold gSyn at hsyn
        rw [Bool.or_eq_false_iff] at hsyn
        rw [hsyn.2] at h1
        exact ⟨by simpa using hsyn.1, h1⟩
      obtain ⟨h6, hb⟩ := hk6
      have HN := Lib.hid (show gNew c bs s B now f sg.flags = ⟨9, zeroBd, s, B⟩ by unfold gNew; rw [hsyn, if_neg Bool.false_ne_true])
      have st := stoBd K2 zeroBd
      have KF := K2.row zeroBd.cells
      have gw := (HG.out _ E2).rowN HSZ.out (k := w.heap.size + 2) (by omega) zeroBd.cells
      have kw := (E2.kp G.T.mut).row (k := w.heap.size + 2) (by omega) zeroBd.cells
      have HZ := Lib.hid (And.intro gw kw)
      clear hsyn gw kw E2 K0 K1 K2 KX
      go_wp2_with ((apply store_by rfl _ _ _ rfl _ rfl); (focus (with_reducible assumption)); (focus rfl))
      rw [HR.out, HN.out]
      refine bodyPost_ret (results_cell2 Tryz.results31 _ _ (w.heap.size + 2) 52 zeroBd.cells _ rfl KF Tryz.underlying52 rfl Tryz.sizeBd) rfl ⟨rfl, HZ.out.1, HZ.out.2⟩
    case true =>
    have hor : (f.kind == 6) = false ∨ ((f.kind == 6) = true ∧ (bits .and .i64 sg.flags 18 != 2) = false) := by
      have h1 := HFL.out
      unfold gSyn at hsyn
      cases h6 : (f.kind == 6)
      · exact .inl rfl
      · refine .inr ⟨rfl, ?_⟩
        have : decide (f.kind = 6) = true := by simpa using h6
        rw [this] at hsyn
        rw [h1]
        simp only [Bool.not_true, Bool.false_or] at hsyn
        rw [hsyn]
        rfl
    have HN := Lib.hid (show gNew c bs s B now f sg.flags = if gToQ c bs f = 0 then gMade f (gToA c bs f) (gToD c bs f) now s B else ⟨gToQ c bs f, zeroBd, s, B⟩ by unfold gNew; rw [hsyn, if_pos rfl])
    clear hsyn KX
    go_upto_region 4 with (fail)
    refine at_worldE (fun W => Ext w W ∧ Blk W w.heap.size 50 f.cells ∧ Blk W (w.heap.size + 1) 40 (sg.cells (.slice a n m)) ∧ Blk W (w.heap.size + 2) 52 #[.int .i64 0, .int .i64 0, .int .i64 0, .int .i64 0, .int .i64 0, .int .i64 0, .int .i64 0, .int .i64 0, .int .i64 0, .int .i64 0, .int .i64 0, .int .i64 0, .int .i64 0, .int .i64 0, .int .i64 0, .int .i64 0, .int .i64 0, .int .i64 0, .int .i64 0, .int .i64 0, .int .i64 0, .int .i64 0, .int .i64 0]) ⟨E2, K0, K1, K2⟩ ?_
    clear E2 K0 K1 K2 c0 c5
    rintro W2 ⟨E2, K0, K1, K2⟩
    go_cut [48] (fun v wc => W2 = wc ∧ v = .bool false)
    case first =>
      obtain ⟨c0, _, _, _, _, c5, _⟩ := K1.sg
      rw [hk] at c0
      rcases hor with h6 | ⟨h6, hb⟩
      · go_wp2_with fail
        go_meet
        exact ⟨rfl, rfl⟩
      · go_wp2_with fail
        go_meet
        exact ⟨rfl, rfl⟩
    obtain ⟨rfl, rfl⟩ := hcut
    clear hor K1
    go_upto_region 6 with (fail)
    go_cut [12, 13, 14] (fun a d er wc => a = .int .i64 (gToA c bs f) ∧ d = .int .i64 (gToD c bs f) ∧ er = erv (gToQ c bs f) ∧ Ext W2 wc)
    case first =>
      have ld := loaFl K0
      rcases HL.out with ⟨hv, b, rfl, KB⟩ | ⟨hv, b, rfl, KB⟩
      · have HA := Lib.hid (show gToA c bs f = ((Pl.best (Pl.worth c.seed f) bs).getD Pl.back0).addr by unfold gToA; rw [if_pos hv])
        have HD := Lib.hid (show gToD c bs f = ((Pl.best (Pl.worth c.seed f) bs).getD Pl.back0).door by unfold gToD; rw [if_pos hv])
        have HT := Lib.hid (show gToQ c bs f = if (Pl.best (Pl.worth c.seed f) bs).isSome = true then 0 else 4 by unfold gToQ; rw [if_pos hv])
        have HC := Lib.hid (lead1_any G c bs s B now f b W2 (HG.out _ E2) HOK.out (okF_iff.1 HFO.out) (KB.ext E2))
        clear hv KB
        generalize (if (Pl.best (Pl.worth c.seed f) bs).isSome = true then (0 : Int) else 4) = Q1 at *
        generalize (Pl.best (Pl.worth c.seed f) bs).getD Pl.back0 = X1 at *
        go_wp2_with ((apply load_by rfl _ _ rfl _ rfl); (focus (with_reducible assumption)))
        refine HC.out.mono ?_
        rintro e W3 ⟨rfl, q⟩
        go_wp2_with fail
        go_meet
        exact ⟨by rw [HA.out], by rw [HD.out], by rw [HT.out], q⟩
      · have HA := Lib.hid (show gToA c bs f = Pl.outVal f.dst c.len by unfold gToA; rw [if_neg (by rw [hv]; exact Bool.false_ne_true)])
        have HD := Lib.hid (show gToD c bs f = f.door by unfold gToD; rw [if_neg (by rw [hv]; exact Bool.false_ne_true)])
        have HT := Lib.hid (show gToQ c bs f = 0 by unfold gToQ; rw [if_neg (by rw [hv]; exact Bool.false_ne_true)])
        have HC := Lib.hid (lead2_any f b (Pl.outVal f.dst c.len) W2 (KB.ext E2))
        clear hv KB
        go_wp2_with ((apply load_by rfl _ _ rfl _ rfl); (focus (with_reducible assumption)))
        refine HC.out.mono ?_
        rintro e W3 ⟨rfl, q⟩
        go_wp2_with fail
        go_meet
        exact ⟨by rw [HA.out], by rw [HD.out], by rw [HT.out, erv_zero], q⟩
    obtain ⟨rfl, rfl, rfl, q3⟩ := hcut
    have E3 := E2.trans q3
    replace K0 := K0.ext q3
    replace K2 := K2.ext q3
    clear q3 E2
    generalize gToA c bs f = A at *
    generalize gToD c bs f = D at *
    generalize gToQ c bs f = T at *
    by_cases ht : T = 0
    case neg =>
      rw [if_neg ht] at HN
      rw [erv_ne ht]
      have st := stoBd K2 zeroBd
      have KF := K2.row zeroBd.cells
      have gw := (HG.out _ E3).rowN HSZ.out (k := w.heap.size + 2) (by omega) zeroBd.cells
      have kw := (E3.kp G.T.mut).row (k := w.heap.size + 2) (by omega) zeroBd.cells
      have HZ := Lib.hid (And.intro gw kw)
      have HT := Lib.hid (show errv T = erv T from (erv_ne ht).symm)
      unfold errv at HT ⊢
      clear gw kw E3 K0 K2 ht
      go_wp2_with ((apply store_by rfl _ _ _ rfl _ rfl); (focus (with_reducible assumption)); (focus rfl))
      rw [HR.out, HN.out]
      refine bodyPost_ret (results_cell2 Tryz.results31 _ _ (w.heap.size + 2) 52 zeroBd.cells _ rfl KF Tryz.underlying52 rfl Tryz.sizeBd) rfl ⟨?_, HZ.out.1, HZ.out.2⟩
      rw [← HT.out]
      rfl
    case pos =>
    rw [if_pos ht] at HN
    subst ht
    rw [erv_zero]
    generalize hRR : gMade f A D now s B = R at *
    have HM := Lib.hid (fun V (g : GW V G c bs s B now) => (show Calls Tryz.prog 68 #[.pointer (some ⟨G.T.gT, 0, none⟩), f.v, .int .i64 A, .int .i64 D, .int .i64 now] V (BindGot V G c bs now R) from hRR ▸ gmake_any G c bs s B now f A D V g))
    clear hRR
    go_upto_region 9 with (fail)
    refine at_worldE (fun W => Ext w W ∧ Blk W w.heap.size 50 f.cells ∧ Blk W (w.heap.size + 2) 52 #[.int .i64 0, .int .i64 0, .int .i64 0, .int .i64 0, .int .i64 0, .int .i64 0, .int .i64 0, .int .i64 0, .int .i64 0, .int .i64 0, .int .i64 0, .int .i64 0, .int .i64 0, .int .i64 0, .int .i64 0, .int .i64 0, .int .i64 0, .int .i64 0, .int .i64 0, .int .i64 0, .int .i64 0, .int .i64 0, .int .i64 0]) ⟨E3, K0, K2⟩ ?_
    clear E3 K0 K2
    rintro W3 ⟨E3, K0, K2⟩
    have hs3 := K2.lt
    have HS := Lib.hid (fun V (E : Kp G.T.mut W3 V) => (show V.cell? ⟨G.g, 23, none⟩ = some (.pointer (some ⟨G.T.gT, 0, none⟩)) ∧ Blk V w.heap.size 50 f.cells ∧ V.cell? ⟨G.g, 25, none⟩ = some (.int .i64 now) from by
      have kb := (HG.out W3 E3).blk.kp E hg0
      exact ⟨kb.cells 23, K0.kp E (fun hm => by have := HMUT.out _ hm; omega), kb.cells 25⟩))
    have D0 : Kp G.T.mut W3 W3.drew := (Kp.refl _ W3).drew
    have HGW := Lib.hid (HG.out W3 E3)
    have gwc : GW W3.drew G c bs s B now := (HG.out W3 E3).ext (Ext.refl W3).drew
    have hK0 := K0
    have hK2 := K2
    go_cut [14, 15] (fun er p wc => ∃ g, p = .pointer (some ⟨g, 0, none⟩) ∧ er = erv R.q ∧ W3.heap.size ≤ g ∧ Blk wc g 52 R.b.cells ∧ Kp G.T.mut W3 wc ∧ GW wc G c bs R.s R.B now)
    case first =>
      have HS0 := HS.out _ D0
      refine wp_region_held_drew (S := (fun V => V.cell? ⟨G.g, 23, none⟩ = some (.pointer (some ⟨G.T.gT, 0, none⟩)) ∧ Blk V w.heap.size 50 f.cells ∧ V.cell? ⟨G.g, 25, none⟩ = some (.int .i64 now))) (by kernel_rfl) HS0 (fun hS0 => ?_)
      clear HS0
      have D1 := D0
      generalize W3.drew = V1 at *
      (refine wpAnyH_take (i := 0) (v := ?_) rfl (by kernel_rfl) (by kernel_rfl) (by kernel_rfl) (fun _ _ _ h => h) (Or.inl ⟨by rfl, ?_⟩) (by assumption) ?_; rotate_left; focus (intro w hSw; (try dsimp only at hSw); go_simp; try with_reducible rfl); try simp only [Act.put, List.getElem_toArray, List.getElem_cons_succ, List.getElem_cons_zero, List.setIfInBounds_toArray, List.set_cons_zero, List.set_cons_succ])
      (refine wpAnyH_take (i := 1) (v := ?_) rfl (by kernel_rfl) (by kernel_rfl) (by kernel_rfl) (fun _ _ _ h => h) (Or.inl ⟨by rfl, ?_⟩) (by assumption) ?_; rotate_left; focus (intro w hSw; (try dsimp only at hSw); go_simp; try with_reducible rfl); try simp only [Act.put, List.getElem_toArray, List.getElem_cons_succ, List.getElem_cons_zero, List.setIfInBounds_toArray, List.set_cons_zero, List.set_cons_succ])
      (refine wpAnyH_take (i := 2) (v := ?_) rfl (by kernel_rfl) (by kernel_rfl) (by kernel_rfl) (fun _ _ _ h => h) (Or.inl ⟨by rfl, ?_⟩) (by assumption) ?_; rotate_left; focus (intro w hSw; (try dsimp only at hSw); go_simp; try with_reducible rfl); try simp only [Act.put, List.getElem_toArray, List.getElem_cons_succ, List.getElem_cons_zero, List.setIfInBounds_toArray, List.set_cons_zero, List.set_cons_succ])
      (refine wpAnyH_take (i := 3) (v := ?_) rfl (by kernel_rfl) (by kernel_rfl) (by kernel_rfl) (fun _ _ _ h => h) (Or.inl ⟨by rfl, ?_⟩) (by assumption) ?_; rotate_left; focus (intro w hSw; (try dsimp only at hSw); go_simp; try with_reducible rfl); try simp only [Act.put, List.getElem_toArray, List.getElem_cons_succ, List.getElem_cons_zero, List.setIfInBounds_toArray, List.set_cons_zero, List.set_cons_succ])
      refine wpAnyH_take (i := 4) rfl (by kernel_rfl) (by kernel_rfl) (by kernel_rfl) (fun _ _ _ h => h) (Or.inl ⟨by rfl, fun W hS => exec_load rfl rfl (loaFl hS.2.1)⟩) (by assumption) ?_
      (try simp only [Act.put, List.getElem_toArray, List.getElem_cons_succ, List.getElem_cons_zero, List.setIfInBounds_toArray, List.set_cons_zero, List.set_cons_succ])
      (refine wpAnyH_take (i := 5) (v := ?_) rfl (by kernel_rfl) (by kernel_rfl) (by kernel_rfl) (fun _ _ _ h => h) (Or.inl ⟨by rfl, ?_⟩) (by assumption) ?_; rotate_left; focus (intro w hSw; (try dsimp only at hSw); go_simp; try with_reducible rfl); try simp only [Act.put, List.getElem_toArray, List.getElem_cons_succ, List.getElem_cons_zero, List.setIfInBounds_toArray, List.set_cons_zero, List.set_cons_succ])
      (refine wpAnyH_take (i := 6) (v := ?_) rfl (by kernel_rfl) (by kernel_rfl) (by kernel_rfl) (fun _ _ _ h => h) (Or.inl ⟨by rfl, ?_⟩) (by assumption) ?_; rotate_left; focus (intro w hSw; (try dsimp only at hSw); go_simp; try with_reducible rfl); try simp only [Act.put, List.getElem_toArray, List.getElem_cons_succ, List.getElem_cons_zero, List.setIfInBounds_toArray, List.set_cons_zero, List.set_cons_succ])
      (refine wpAnyH_take (i := 7) (v := ?_) rfl (by kernel_rfl) (by kernel_rfl) (by kernel_rfl) (fun _ _ _ h => h) (Or.inl ⟨by rfl, ?_⟩) (by assumption) ?_; rotate_left; focus (intro w hSw; (try dsimp only at hSw); go_simp; try with_reducible rfl); try simp only [Act.put, List.getElem_toArray, List.getElem_cons_succ, List.getElem_cons_zero, List.setIfInBounds_toArray, List.set_cons_zero, List.set_cons_succ])
      (refine wpAnyH_take (i := 8) (v := ?_) rfl (by kernel_rfl) (by kernel_rfl) (by kernel_rfl) (fun _ _ _ h => h) (Or.inl ⟨by rfl, ?_⟩) (by assumption) ?_; rotate_left; focus (intro w hSw; (try dsimp only at hSw); go_simp; try with_reducible rfl); try simp only [Act.put, List.getElem_toArray, List.getElem_cons_succ, List.getElem_cons_zero, List.setIfInBounds_toArray, List.set_cons_zero, List.set_cons_succ])
      (refine wpAnyH_take (i := 9) (v := ?_) rfl (by kernel_rfl) (by kernel_rfl) (by kernel_rfl) (fun _ _ _ h => h) (Or.inl ⟨by rfl, ?_⟩) (by assumption) ?_; rotate_left; focus (intro w hSw; (try dsimp only at hSw); go_simp; try with_reducible rfl); try simp only [Act.put, List.getElem_toArray, List.getElem_cons_succ, List.getElem_cons_zero, List.setIfInBounds_toArray, List.set_cons_zero, List.set_cons_succ])
      (refine wpAnyH_take (i := 10) (v := ?_) rfl (by kernel_rfl) (by kernel_rfl) (by kernel_rfl) (fun _ _ _ h => h) (Or.inl ⟨by rfl, ?_⟩) (by assumption) ?_; rotate_left; focus (intro w hSw; (try dsimp only at hSw); go_simp; try with_reducible rfl); try simp only [Act.put, List.getElem_toArray, List.getElem_cons_succ, List.getElem_cons_zero, List.setIfInBounds_toArray, List.set_cons_zero, List.set_cons_succ])
      (try simp only [Act.put, List.getElem_toArray, List.getElem_cons_succ, List.getElem_cons_zero, List.setIfInBounds_toArray, List.set_cons_zero, List.set_cons_succ])
      refine wpAnyH_ready (rs := [11, 15]) (by kernel_rfl) (by simp) ?_
      refine AllReadyH.cons rfl (fun K hK => ?_) (AllReadyH.cons rfl (fun K hK => ?_) AllReadyH.nil)
      · go_simp
        go_at_call 68
        refine (HM.out V1 gwc).mono ?_
        rintro e V2 ⟨rfl, gw, q⟩
        have D2 := D1.trans q
        refine hK.out _ _ (HS.out _ D2) ?_
        clear hK K
        intro hS1
        (try simp only [Act.put, List.getElem_toArray, List.getElem_cons_succ, List.getElem_cons_zero, List.setIfInBounds_toArray, List.set_cons_zero, List.set_cons_succ])
        (refine wpAnyH_take (i := 12) (v := ?_) rfl (by kernel_rfl) (by kernel_rfl) (by kernel_rfl) (fun _ _ _ h => h) (Or.inl ⟨by rfl, ?_⟩) (by assumption) ?_; rotate_left; focus (intro w hSw; (try dsimp only at hSw); go_simp; try with_reducible rfl); try simp only [Act.put, List.getElem_toArray, List.getElem_cons_succ, List.getElem_cons_zero, List.setIfInBounds_toArray, List.set_cons_zero, List.set_cons_succ])
        (refine wpAnyH_take (i := 13) (v := ?_) rfl (by kernel_rfl) (by kernel_rfl) (by kernel_rfl) (fun _ _ _ h => h) (Or.inl ⟨by rfl, ?_⟩) (by assumption) ?_; rotate_left; focus (intro w hSw; (try dsimp only at hSw); go_simp; try with_reducible rfl); try simp only [Act.put, List.getElem_toArray, List.getElem_cons_succ, List.getElem_cons_zero, List.setIfInBounds_toArray, List.set_cons_zero, List.set_cons_succ])
        (refine wpAnyH_take (i := 14) (v := ?_) rfl (by kernel_rfl) (by kernel_rfl) (by kernel_rfl) (fun _ _ _ h => h) (Or.inl ⟨by rfl, ?_⟩) (by assumption) ?_; rotate_left; focus (intro w hSw; (try dsimp only at hSw); go_simp; try with_reducible rfl); try simp only [Act.put, List.getElem_toArray, List.getElem_cons_succ, List.getElem_cons_zero, List.setIfInBounds_toArray, List.set_cons_zero, List.set_cons_succ])
        (refine wpAnyH_ready (rs := [15]) (by kernel_rfl) (by simp) ?_; refine AllReadyH.cons rfl (fun K hK => ?_) AllReadyH.nil)
        go_simp
        have KG := Blk.new V2 52 #[.int .i64 0, .int .i64 0, .int .i64 0, .int .i64 0, .int .i64 0, .int .i64 0, .int .i64 0, .int .i64 0, .int .i64 0, .int .i64 0, .int .i64 0, .int .i64 0, .int .i64 0, .int .i64 0, .int .i64 0, .int .i64 0, .int .i64 0, .int .i64 0, .int .i64 0, .int .i64 0, .int .i64 0, .int .i64 0, .int .i64 0]
        have D3 := D2.alloc (.cells #[.int .i64 0, .int .i64 0, .int .i64 0, .int .i64 0, .int .i64 0, .int .i64 0, .int .i64 0, .int .i64 0, .int .i64 0, .int .i64 0, .int .i64 0, .int .i64 0, .int .i64 0, .int .i64 0, .int .i64 0, .int .i64 0, .int .i64 0, .int .i64 0, .int .i64 0, .int .i64 0, .int .i64 0, .int .i64 0, .int .i64 0] 52)
        have hge : W3.heap.size ≤ V2.heap.size := D2.size
        have gw3 := gw.ext ((Ext.refl V2).alloc (.cells #[.int .i64 0, .int .i64 0, .int .i64 0, .int .i64 0, .int .i64 0, .int .i64 0, .int .i64 0, .int .i64 0, .int .i64 0, .int .i64 0, .int .i64 0, .int .i64 0, .int .i64 0, .int .i64 0, .int .i64 0, .int .i64 0, .int .i64 0, .int .i64 0, .int .i64 0, .int .i64 0, .int .i64 0, .int .i64 0, .int .i64 0] 52))
        refine hK.out _ _ (HS.out _ D3) ?_
        clear hK K
        intro hS2
        clear D2
        generalize V2.alloc (.cells #[.int .i64 0, .int .i64 0, .int .i64 0, .int .i64 0, .int .i64 0, .int .i64 0, .int .i64 0, .int .i64 0, .int .i64 0, .int .i64 0, .int .i64 0, .int .i64 0, .int .i64 0, .int .i64 0, .int .i64 0, .int .i64 0, .int .i64 0, .int .i64 0, .int .i64 0, .int .i64 0, .int .i64 0, .int .i64 0, .int .i64 0] 52) = V3 at *
        generalize V2.heap.size = g at *
        (try simp only [Act.put, List.getElem_toArray, List.getElem_cons_succ, List.getElem_cons_zero, List.setIfInBounds_toArray, List.set_cons_zero, List.set_cons_succ])
        (refine wpAnyH_ready (rs := [16]) (by kernel_rfl) (by simp) ?_; refine AllReadyH.cons rfl (fun K hK => ?_) AllReadyH.nil)
        rw [if_pos (by rfl)]
        refine wp_store_at _ _ _ rfl _ rfl (stoBd KG R.b) rfl ?_
        have KH := KG.row R.b.cells
        have D9 := D3.row hge R.b.cells
        have gw9 := gw3.rowN HGW.out hge R.b.cells
        refine hK.out _ _ (HS.out _ D9) ?_
        clear hK K
        intro hS3
        (try simp only [Act.put, List.getElem_toArray, List.getElem_cons_succ, List.getElem_cons_zero])
        (refine wpAnyH_take (i := 17) (v := ?_) rfl (by kernel_rfl) (by kernel_rfl) (by kernel_rfl) (fun _ _ _ h => h) (Or.inl ⟨by rfl, ?_⟩) (by assumption) ?_; rotate_left; focus (intro w hSw; (try dsimp only at hSw); go_simp; try with_reducible rfl); try simp only [Act.put, List.getElem_toArray, List.getElem_cons_succ, List.getElem_cons_zero, List.setIfInBounds_toArray, List.set_cons_zero, List.set_cons_succ])
        (try simp only [Act.put, List.getElem_toArray, List.getElem_cons_succ, List.getElem_cons_zero, List.setIfInBounds_toArray, List.set_cons_zero, List.set_cons_succ])
        refine wpAnyH_done (by kernel_rfl) ?_ _
        go_wp2_with fail
        go_meet
        exact ⟨g, rfl, rfl, hge, KH, D9, gw9⟩
      · go_simp
        have KG := Blk.new V1 52 #[.int .i64 0, .int .i64 0, .int .i64 0, .int .i64 0, .int .i64 0, .int .i64 0, .int .i64 0, .int .i64 0, .int .i64 0, .int .i64 0, .int .i64 0, .int .i64 0, .int .i64 0, .int .i64 0, .int .i64 0, .int .i64 0, .int .i64 0, .int .i64 0, .int .i64 0, .int .i64 0, .int .i64 0, .int .i64 0, .int .i64 0]
        have D2 := D1.alloc (.cells #[.int .i64 0, .int .i64 0, .int .i64 0, .int .i64 0, .int .i64 0, .int .i64 0, .int .i64 0, .int .i64 0, .int .i64 0, .int .i64 0, .int .i64 0, .int .i64 0, .int .i64 0, .int .i64 0, .int .i64 0, .int .i64 0, .int .i64 0, .int .i64 0, .int .i64 0, .int .i64 0, .int .i64 0, .int .i64 0, .int .i64 0] 52)
        have hge : W3.heap.size ≤ V1.heap.size := D1.size
        replace gwc := gwc.ext ((Ext.refl V1).alloc (.cells #[.int .i64 0, .int .i64 0, .int .i64 0, .int .i64 0, .int .i64 0, .int .i64 0, .int .i64 0, .int .i64 0, .int .i64 0, .int .i64 0, .int .i64 0, .int .i64 0, .int .i64 0, .int .i64 0, .int .i64 0, .int .i64 0, .int .i64 0, .int .i64 0, .int .i64 0, .int .i64 0, .int .i64 0, .int .i64 0, .int .i64 0] 52))
        refine hK.out _ _ (HS.out _ D2) ?_
        clear hK K
        intro hS2
        clear D1
        generalize V1.alloc (.cells #[.int .i64 0, .int .i64 0, .int .i64 0, .int .i64 0, .int .i64 0, .int .i64 0, .int .i64 0, .int .i64 0, .int .i64 0, .int .i64 0, .int .i64 0, .int .i64 0, .int .i64 0, .int .i64 0, .int .i64 0, .int .i64 0, .int .i64 0, .int .i64 0, .int .i64 0, .int .i64 0, .int .i64 0, .int .i64 0, .int .i64 0] 52) = V2 at *
        generalize V1.heap.size = g at *
        (try simp only [Act.put, List.getElem_toArray, List.getElem_cons_succ, List.getElem_cons_zero, List.setIfInBounds_toArray, List.set_cons_zero, List.set_cons_succ])
        (refine wpAnyH_ready (rs := [11]) (by kernel_rfl) (by simp) ?_; refine AllReadyH.cons rfl (fun K hK => ?_) AllReadyH.nil)
        go_simp
        go_at_call 68
        refine (HM.out V2 gwc).mono ?_
        rintro e V3 ⟨rfl, gw, q⟩
        have D3 := D2.trans q
        have gw3 := gw
        replace KG := KG.kp q (fun hm => by have := HMUT.out _ hm; omega)
        refine hK.out _ _ (HS.out _ D3) ?_
        clear hK K
        intro hS1
        (try simp only [Act.put, List.getElem_toArray, List.getElem_cons_succ, List.getElem_cons_zero, List.setIfInBounds_toArray, List.set_cons_zero, List.set_cons_succ])
        (refine wpAnyH_take (i := 12) (v := ?_) rfl (by kernel_rfl) (by kernel_rfl) (by kernel_rfl) (fun _ _ _ h => h) (Or.inl ⟨by rfl, ?_⟩) (by assumption) ?_; rotate_left; focus (intro w hSw; (try dsimp only at hSw); go_simp; try with_reducible rfl); try simp only [Act.put, List.getElem_toArray, List.getElem_cons_succ, List.getElem_cons_zero, List.setIfInBounds_toArray, List.set_cons_zero, List.set_cons_succ])
        (refine wpAnyH_take (i := 13) (v := ?_) rfl (by kernel_rfl) (by kernel_rfl) (by kernel_rfl) (fun _ _ _ h => h) (Or.inl ⟨by rfl, ?_⟩) (by assumption) ?_; rotate_left; focus (intro w hSw; (try dsimp only at hSw); go_simp; try with_reducible rfl); try simp only [Act.put, List.getElem_toArray, List.getElem_cons_succ, List.getElem_cons_zero, List.setIfInBounds_toArray, List.set_cons_zero, List.set_cons_succ])
        (refine wpAnyH_take (i := 14) (v := ?_) rfl (by kernel_rfl) (by kernel_rfl) (by kernel_rfl) (fun _ _ _ h => h) (Or.inl ⟨by rfl, ?_⟩) (by assumption) ?_; rotate_left; focus (intro w hSw; (try dsimp only at hSw); go_simp; try with_reducible rfl); try simp only [Act.put, List.getElem_toArray, List.getElem_cons_succ, List.getElem_cons_zero, List.setIfInBounds_toArray, List.set_cons_zero, List.set_cons_succ])
        (refine wpAnyH_ready (rs := [16]) (by kernel_rfl) (by simp) ?_; refine AllReadyH.cons rfl (fun K hK => ?_) AllReadyH.nil)
        rw [if_pos (by rfl)]
        refine wp_store_at _ _ _ rfl _ rfl (stoBd KG R.b) rfl ?_
        have KH := KG.row R.b.cells
        have D9 := D3.row hge R.b.cells
        have gw9 := gw3.rowN HGW.out hge R.b.cells
        refine hK.out _ _ (HS.out _ D9) ?_
        clear hK K
        intro hS3
        (try simp only [Act.put, List.getElem_toArray, List.getElem_cons_succ, List.getElem_cons_zero])
        (refine wpAnyH_take (i := 17) (v := ?_) rfl (by kernel_rfl) (by kernel_rfl) (by kernel_rfl) (fun _ _ _ h => h) (Or.inl ⟨by rfl, ?_⟩) (by assumption) ?_; rotate_left; focus (intro w hSw; (try dsimp only at hSw); go_simp; try with_reducible rfl); try simp only [Act.put, List.getElem_toArray, List.getElem_cons_succ, List.getElem_cons_zero, List.setIfInBounds_toArray, List.set_cons_zero, List.set_cons_succ])
        (try simp only [Act.put, List.getElem_toArray, List.getElem_cons_succ, List.getElem_cons_zero, List.setIfInBounds_toArray, List.set_cons_zero, List.set_cons_succ])
        refine wpAnyH_done (by kernel_rfl) ?_ _
        go_wp2_with fail
        go_meet
        exact ⟨g, rfl, rfl, hge, KH, D9, gw9⟩
    obtain ⟨g4, rfl, rfl, hg4, KY, k4, gw4⟩ := hcut
    have K4 := hK2.kp k4 (fun hm => by have := HMUT.out _ hm; omega)
    have F4 := hK0.kp k4 (fun hm => by have := HMUT.out _ hm; omega)
    have kw := ((E3.kp G.T.mut).trans k4)
    clear hK0 hK2 K0 K2 gwc HS D0 k4
    by_cases hq : R.q = 0
    case neg =>
      rw [erv_ne hq]
      have ld := loaBd KY
      have st := stoBd K4 R.b
      have KF := K4.row R.b.cells
      have gw := gw4.rowN HSZ.out (k := w.heap.size + 2) (by omega) R.b.cells
      have HZ := Lib.hid (And.intro gw (kw.row (k := w.heap.size + 2) (by omega) R.b.cells))
      have HT := Lib.hid (show errv R.q = erv R.q from (erv_ne hq).symm)
      unfold errv at HT ⊢
      clear gw kw K4 F4 KY gw4 hq
      go_wp2_with (first | ((apply load_by rfl _ _ rfl _ rfl); (focus (with_reducible assumption))) | ((apply store_by rfl _ _ _ rfl _ rfl); (focus (with_reducible assumption)); (focus rfl)))
      rw [HR.out, HN.out]
      refine bodyPost_ret (results_cell2 Tryz.results31 _ _ (w.heap.size + 2) 52 R.b.cells _ rfl KF Tryz.underlying52 rfl Tryz.sizeBd) rfl ⟨?_, HZ.out.1, HZ.out.2⟩
      rw [← HT.out]
      rfl
    case pos =>
      rw [hq, erv_zero]
      have ldf := loaFl F4
      have HC := Lib.hid (headed_any G c bs R.s R.B now f _ gw4)
      rw [HH.out] at HC
      have HZ := Lib.hid (And.intro gw4 (And.intro kw (And.intro K4 KY)))
      have HQ := Lib.hid (show erv R.q = .nilIface by rw [hq, erv_zero])
      clear gw4 kw K4 F4 KY hq
      go_wp2_with ((apply load_by rfl _ _ rfl _ rfl); (focus (with_reducible assumption)))
      refine HC.out.mono ?_
      rintro e W5 ⟨rfl, q5⟩
      obtain ⟨gw4, kw, K4, KY⟩ := HZ.out
      have K5 := K4.ext q5
      have ld := loaBd (KY.ext q5)
      have st := stoBd K5 R.b
      have KF := K5.row R.b.cells
      have gw := (gw4.ext q5).rowN HSZ.out (k := w.heap.size + 2) (by omega) R.b.cells
      have HZ2 := Lib.hid (And.intro gw ((kw.trans (q5.kp G.T.mut)).row (k := w.heap.size + 2) (by omega) R.b.cells))
      clear gw kw K4 KY gw4 q5 K5 ldf HZ
      go_wp2_with (first | ((apply load_by rfl _ _ rfl _ rfl); (focus (with_reducible assumption))) | ((apply store_by rfl _ _ _ rfl _ rfl); (focus (with_reducible assumption)); (focus rfl)))
      rw [HR.out, HN.out]
      refine bodyPost_ret (results_cell2 Tryz.results31 _ _ (w.heap.size + 2) 52 R.b.cells _ rfl KF Tryz.underlying52 rfl Tryz.sizeBd) rfl ⟨?_, HZ2.out.1, HZ2.out.2⟩
      rw [HQ.out]
      rfl
end Go.Proofs.YtbjogkpepfgegaaGreatDoor
