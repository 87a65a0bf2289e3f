/- The contract of seg.Decode of bytes that are not too short or long. Conditions: as each theorem states them. -/
import Derived.Test.YtbjogkpepfgegaaGreatDoorK26
import Derived.Test.YtbjogkpepfgegaaGreatDoorK13
namespace Go.Proofs.YtbjogkpepfgegaaGreatDoor
open Go.RowKit
theorem snumber_ext (a : Option Addr) (n c : Nat) (xs : List Int) (w : World) (hr : Ints .u8 w a n xs) (hb : Pl.IsB xs) (hn : 2 ≤ n) :
    Calls Tryz.prog 80 #[.slice a n c] w fun e w' => e = .returned (.int .i64 (Pl.at2 xs 0)) ∧ Ext w w' :=
  (snumber_any a n c xs w hr hb hn).mono fun _ _ ⟨h, q, hq⟩ => ⟨h, by rw [hq]; exact (Ext.refl w).drewN q⟩
theorem Blk.sti {w : World} {g : Nat} {t : TypeId} {cs : Array Value} (h : Blk w g t cs) (i : Nat) (x : Int) (hi : i < cs.size) :
    (Instr.storeAt 3 (.pointer (some ⟨g, i, none⟩)) (.int .i64 x)).run Tryz.prog w = .ok () (w.setCell ⟨g, i, none⟩ (.int .i64 x)) := by
  have hc := h.cells i
  have hf := h.free i
  rw [Array.getElem?_eq_getElem hi] at hc
  simp [Instr.storeAt, Instr.sureAddr, storeVar, Value.cells, storeCells, Addr.add, Result.andThen]
  rw [run_store Tryz.prog w _ _ _ (by rfl)]
  simp [hc, hf]
theorem Own.setFar {w : World} {B : Nat} {v : Value} {xs : List Int} (h : Own w B v xs) {p : Addr} (hp : ∀ k, v.ownBlock = some k → k ≠ p.block) (u : Value) : Own (w.setCell p u) B v xs := by
  refine ⟨h.1, ?_⟩
  rcases h.2 with hn | ⟨g, cap, cur, rfl, hg, hh, rest⟩
  · exact .inl hn
  · exact .inr ⟨g, cap, cur, rfl, hg, by rw [Below.heap_setCell _ _ _ _ (hp g rfl)]; exact hh, rest⟩
namespace Pl
theorem at2_drop (xs : List Int) (k i : Nat) : at2 (xs.drop k) i = at2 xs (k + i) := by
  unfold at2
  rw [drop_getD, drop_getD, Nat.add_assoc]
theorem segQ_of {k over : Int} {xs : List Int} (hk : k = 6 ∨ k = 17) (ho : Word over) : segQ k xs over = if ¬ IsSeg k xs then 5 else if at2 xs (segAt k) = segCheck (decSeg k xs) over (xs.drop (segSize k)) then 0 else 6 := by
  unfold segQ
  rw [if_neg (by rintro (h | h); exact h hk; exact h ho)]
theorem segQ_yes {k over : Int} {xs : List Int} (hk : k = 6 ∨ k = 17) (ho : Word over) (hb : IsB xs) (h0 : segSize k ≤ xs.length ∧ xs.length ≤ segSize k + 300) (h : segBytes (decSeg k xs) (segCheck (decSeg k xs) over (xs.drop (segSize k))) (xs.drop (segSize k)) = xs) : segQ k xs over = 0 := by
  obtain ⟨h1, h2⟩ := enc_is hk hb h0 h
  rw [segQ_of hk ho, if_neg (fun hn => hn h1), if_pos h2]
theorem segQ_sum {k over : Int} {xs : List Int} (hk : k = 6 ∨ k = 17) (ho : Word over) (hb : IsB xs) (h0 : segSize k ≤ xs.length ∧ xs.length ≤ segSize k + 300) (h : segBytes (decSeg k xs) (segCheck (decSeg k xs) over (xs.drop (segSize k))) (xs.drop (segSize k)) ≠ xs)
    (h2 : patchS k (segBytes (decSeg k xs) (segCheck (decSeg k xs) over (xs.drop (segSize k))) (xs.drop (segSize k))) xs = xs) : segQ k xs over = 6 := by
  rw [patch_seg hk hb h0.1] at h2
  obtain ⟨h3, _⟩ := enc_is hk hb h0 h2
  rw [segQ_of hk ho, if_neg (fun hn => hn h3), if_neg]
  intro h4
  rw [h4] at h2
  exact h h2
theorem segQ_syn {k over : Int} {xs : List Int} (hk : k = 6 ∨ k = 17) (ho : Word over) (hb : IsB xs) (h0 : segSize k ≤ xs.length ∧ xs.length ≤ segSize k + 300)
    (h2 : patchS k (segBytes (decSeg k xs) (segCheck (decSeg k xs) over (xs.drop (segSize k))) (xs.drop (segSize k))) xs ≠ xs) : segQ k xs over = 5 := by
  rw [segQ_of hk ho, if_pos]
  intro h3
  rw [patch_seg hk hb h0.1] at h2
  exact h2 (dec_enc hk hb h3)
end Pl
theorem wp_copy {w : World} {o : Oper} {a : Act} {K : Act → World → Prop} {Q : Exit → Act → World → Prop} (hgd : o.guard = none) (d s : Operand)
    (ho : o.op = .call { callee := .builtin .copy, args := #[d, s], argTypes := #[37, 37] })
    (B g N cap lo m dc : Nat) (xs : List Int) (hown : Own w B (.slice (some ⟨g, 0, none⟩) N cap) xs) (hd : a.eval d = .slice (some ⟨g, lo, none⟩) m dc)
    (sp : Option Addr) (sc : Nat) (ys : List Int) (hs : a.eval s = .slice sp m sc) (hr : Ints .u8 w sp m ys) (hlo : lo + m ≤ N)
    (h : ∀ w', Own w' B (.slice (some ⟨g, 0, none⟩) N cap) (xs.take lo ++ (ys ++ xs.drop (lo + m))) → Below B w w' → K (a.put o.dst (goInt m)) w') : Oper.wp Tryz.prog o a w K Q := by
  have h' := step_copy (ops := #[]) (E := True) (Q := Q) hgd d s ho B g N cap lo m dc xs hown hd sp sc ys hs hr hlo h
  rwa [if_pos (by simp [Region.wanted, hgd])] at h'
theorem clone_ext (a : Option Addr) (n c : Nat) (xs : List Int) (w : World) (h : Ints .u8 w a n xs) (hc : a = none → c = 0) (hn : n ≤ 1099511627776) :
    Calls Tryz.prog 61 #[.slice a n c] w fun e w' => ∃ v, e = .returned v ∧ Own w' w.heap.size v xs ∧ Ext w w' := clone_any a n c xs w h hc hn
set_option maxRecDepth 100000 in
set_option maxHeartbeats 8000000 in
theorem sdecode_core17 (a : Option Addr) (n c : Nat) (xs : List Int) (over : Int) (w : World) (hr : Ints .u8 w a n xs) (hb : Pl.IsB xs) (hnc : n ≤ c) (hc : a = none → c = 0) (ho : Pl.Word over) (h0 : 8 ≤ n) (h1 : n ≤ 308) :
    Calls Tryz.prog 37 #[.int .i64 17, .slice a n c, .int .i64 over] w (DecGot 17 xs over w) := by
  obtain ⟨b, off, rfl, hbl, hcell⟩ := hr.at (by omega)
  have hl := hr.len
  have HR := Lib.hid hr
  have HB := Lib.hid hb
  have HO := Lib.hid ho
  have HL := Lib.hid hl
  have KR := Blk.new w 40 #[.int .i64 0, .int .i64 0, .int .i64 0, .int .i64 0, .int .i64 0, .int .i64 0, .int .i64 0, .slice none 0 0]
  have E0 : Ext w (w.alloc (.cells #[.int .i64 0, .int .i64 0, .int .i64 0, .int .i64 0, .int .i64 0, .int .i64 0, .int .i64 0, .slice none 0 0] 40)) := (Ext.refl w).alloc _
  obtain ⟨A2, i2, z2, r2⟩ := slice_tail (some ⟨b, off, none⟩) n c 2 2 rfl (by omega) hnc hc
  obtain ⟨AS, iS, zS, rS⟩ := slice_tail (some ⟨b, off, none⟩) n c 8 8 rfl (by omega) hnc hc
  have F0 := Lib.hid (fun (W : World) (q : Ext w W) => snumber_ext (some ⟨b, off, none⟩) n c xs W (hr.ext q) hb (by omega))
  have F2 := Lib.hid (fun (W : World) (q : Ext w W) => snumber_ext A2 (n - 2) (c - 2) (xs.drop 2) W ((i2 w xs hr).ext q) (hb.drop 2) (by omega))
  have FC := Lib.hid (fun (W : World) (q : Ext w W) => clone_ext AS (n - 8) (c - 8) (xs.drop 8) W ((iS w xs hr).ext q) zS (by omega))
  have l0 : ¬ (n : Int) < 8 := by omega
  have l1 : ¬ (308 : Int) < (n : Int) := by omega
  have HCELL := Lib.hid hcell
  clear hcell hr hb ho hl i2 iS z2 zS hc
  go_enter Tryz.func37, Tryz.ntmps37
  go_wp2_with fail
  refine (known_any _ _).mono ?_
  rintro e w' ⟨rfl, rfl⟩
  go_wp2_with fail
  refine (sword_yes over _ HO.out).mono ?_
  rintro e w' ⟨rfl, rfl⟩
  go_wp2_with fail
  refine (head_17 _).mono ?_
  rintro e w' ⟨rfl, rfl⟩
  go_upto_region 6 with (fail)
  refine at_worldE (fun W => Ext w W ∧ Blk W w.heap.size 40 #[.int .i64 0, .int .i64 0, .int .i64 0, .int .i64 0, .int .i64 0, .int .i64 0, .int .i64 0, .slice none 0 0]) ⟨E0, KR⟩ ?_
  clear E0 KR
  rintro W0 ⟨E0, KR⟩
  go_cut [10] (fun p wc => ∃ g v, p = .pointer (some ⟨g, 0, none⟩) ∧ W0.heap.size ≤ g ∧ Own wc W0.heap.size v (xs.drop 8) ∧ (∀ k, v.ownBlock = some k → k ≠ g) ∧ Blk wc g 40 ((⟨17, Pl.at2 xs 0, Pl.at2 (xs.drop 2) 0, 0, 0, 0, 0⟩ : Sg).cells v) ∧ Ext W0 wc)
  case first =>
    have EX : Ext W0 W0.drew := (Ext.refl W0).drew
    refine wp_region_held_drew (S := (fun _ => True)) (by kernel_rfl) trivial (fun hS0 => ?_)
    generalize W0.drew = V0 at *
    (refine wpAnyH_take (i := 0) (v := ?_) rfl (by kernel_rfl) (by kernel_rfl) (by kernel_rfl) (fun _ _ _ h => h) (Or.inl ⟨by rfl, ?_⟩) (by assumption) ?_; rotate_left; focus (intro w hSw; (try dsimp only at hSw); go_simp; try with_reducible rfl); try simp only [Act.put, List.getElem_toArray, List.getElem_cons_succ, List.getElem_cons_zero, List.setIfInBounds_toArray, List.set_cons_zero, List.set_cons_succ])
    (refine wpAnyH_take (i := 1) (v := ?_) rfl (by kernel_rfl) (by kernel_rfl) (by kernel_rfl) (fun _ _ _ h => h) (Or.inl ⟨by rfl, ?_⟩) (by assumption) ?_; rotate_left; focus (intro w hSw; (try dsimp only at hSw); go_simp; try with_reducible rfl); try simp only [Act.put, List.getElem_toArray, List.getElem_cons_succ, List.getElem_cons_zero, List.setIfInBounds_toArray, List.set_cons_zero, List.set_cons_succ])
    (refine wpAnyH_take (i := 3) (v := ?_) rfl (by kernel_rfl) (by kernel_rfl) (by kernel_rfl) (fun _ _ _ h => h) (Or.inl ⟨by rfl, ?_⟩) (by assumption) ?_; rotate_left; focus (intro w hSw; (try dsimp only at hSw); go_simp; try with_reducible rfl); try simp only [Act.put, List.getElem_toArray, List.getElem_cons_succ, List.getElem_cons_zero, List.setIfInBounds_toArray, List.set_cons_zero, List.set_cons_succ])
    (refine wpAnyH_take (i := 4) (v := ?_) rfl (by kernel_rfl) (by kernel_rfl) (by kernel_rfl) (fun _ _ _ h => h) (Or.inl ⟨by rfl, ?_⟩) (by assumption) ?_; rotate_left; focus (intro w hSw; (try dsimp only at hSw); go_simp; try with_reducible rfl); try simp only [Act.put, List.getElem_toArray, List.getElem_cons_succ, List.getElem_cons_zero, List.setIfInBounds_toArray, List.set_cons_zero, List.set_cons_succ])
    (refine wpAnyH_take (i := 6) (v := ?_) rfl (by kernel_rfl) (by kernel_rfl) (by kernel_rfl) (fun _ _ _ h => h) (Or.inl ⟨by rfl, ?_⟩) (by assumption) ?_; rotate_left; focus (intro w hSw; (try dsimp only at hSw); go_simp; try with_reducible rfl); try simp only [Act.put, List.getElem_toArray, List.getElem_cons_succ, List.getElem_cons_zero, List.setIfInBounds_toArray, List.set_cons_zero, List.set_cons_succ])
    (refine wpAnyH_take (i := 7) (v := ?_) rfl (by kernel_rfl) (by kernel_rfl) (by kernel_rfl) (fun _ _ _ h => h) (Or.inl ⟨by rfl, ?_⟩) (by assumption) ?_; rotate_left; focus (intro w hSw; (try dsimp only at hSw); go_simp; try with_reducible rfl); try simp only [Act.put, List.getElem_toArray, List.getElem_cons_succ, List.getElem_cons_zero, List.setIfInBounds_toArray, List.set_cons_zero, List.set_cons_succ])
    (refine wpAnyH_take (i := 8) (v := ?_) rfl (by kernel_rfl) (by kernel_rfl) (by kernel_rfl) (fun _ _ _ h => h) (Or.inl ⟨by rfl, ?_⟩) (by assumption) ?_; rotate_left; focus (intro w hSw; (try dsimp only at hSw); go_simp; try with_reducible rfl); try simp only [Act.put, List.getElem_toArray, List.getElem_cons_succ, List.getElem_cons_zero, List.setIfInBounds_toArray, List.set_cons_zero, List.set_cons_succ])
    refine wpAnyH_ready (rs := [2, 11]) (by kernel_rfl) (by simp) ?_
    refine AllReadyH.cons rfl (fun K hK => ?_) (AllReadyH.cons rfl (fun K hK => ?_) AllReadyH.nil)
    · go_simp
      go_at_call 80
      refine (F0.out _ (E0.trans EX)).mono ?_
      rintro e V1 ⟨rfl, q⟩
      replace EX := EX.trans q
      refine hK.out _ _ trivial ?_
      clear hK K q
      intro hS
      (try simp only [Act.put, List.getElem_toArray, List.getElem_cons_succ, List.getElem_cons_zero, List.setIfInBounds_toArray, List.set_cons_zero, List.set_cons_succ])
      refine wpAnyH_ready (rs := [5, 11]) (by kernel_rfl) (by simp) ?_
      refine AllReadyH.cons rfl (fun K hK => ?_) (AllReadyH.cons rfl (fun K hK => ?_) AllReadyH.nil)
      · go_simp
        go_at_call 80
        refine (F2.out _ (E0.trans EX)).mono ?_
        rintro e V2 ⟨rfl, q⟩
        replace EX := EX.trans q
        refine hK.out _ _ trivial ?_
        clear hK K q
        intro hS
        (try simp only [Act.put, List.getElem_toArray, List.getElem_cons_succ, List.getElem_cons_zero, List.setIfInBounds_toArray, List.set_cons_zero, List.set_cons_succ])
        refine wpAnyH_ready (rs := [9, 11]) (by kernel_rfl) (by simp) ?_
        refine AllReadyH.cons rfl (fun K hK => ?_) (AllReadyH.cons rfl (fun K hK => ?_) AllReadyH.nil)
        · go_simp
          go_at_call 61
          refine (FC.out _ (E0.trans EX)).mono ?_
          rintro e V3 ⟨v3, rfl, o3, q⟩
          obtain ⟨a3, n3, c3, rfl, _, _⟩ := o3.read
          replace o3 := o3.mono EX.size
          replace EX := EX.trans q
          refine hK.out _ _ trivial ?_
          clear hK K q
          intro hS
          (try simp only [Act.put, List.getElem_toArray, List.getElem_cons_succ, List.getElem_cons_zero, List.setIfInBounds_toArray, List.set_cons_zero, List.set_cons_succ])
          (refine wpAnyH_take (i := 10) (v := ?_) rfl (by kernel_rfl) (by kernel_rfl) (by kernel_rfl) (fun _ _ _ h => h) (Or.inl ⟨by rfl, ?_⟩) (by assumption) ?_; rotate_left; focus (intro w hSw; (try dsimp only at hSw); go_simp; try with_reducible rfl); try simp only [Act.put, List.getElem_toArray, List.getElem_cons_succ, List.getElem_cons_zero, List.setIfInBounds_toArray, List.set_cons_zero, List.set_cons_succ])
          refine wpAnyH_ready (rs := [11]) (by kernel_rfl) (by simp) ?_
          refine AllReadyH.cons rfl (fun K hK => ?_) AllReadyH.nil
          · go_simp
            have KG := Blk.new V3 40 #[.int .i64 0, .int .i64 0, .int .i64 0, .int .i64 0, .int .i64 0, .int .i64 0, .int .i64 0, .slice none 0 0]
            have EX4 := EX.alloc (.cells #[.int .i64 0, .int .i64 0, .int .i64 0, .int .i64 0, .int .i64 0, .int .i64 0, .int .i64 0, .slice none 0 0] 40)
            have hgl : W0.heap.size ≤ V3.heap.size := EX.size
            have hob : ∀ j, (Value.slice a3 n3 c3).ownBlock = some j → j ≠ V3.heap.size := fun j hj => by
              have h1 := o3.lt j hj
              omega
            replace o3 := o3.ext ((Ext.refl V3).alloc (.cells #[.int .i64 0, .int .i64 0, .int .i64 0, .int .i64 0, .int .i64 0, .int .i64 0, .int .i64 0, .slice none 0 0] 40))
            refine hK.out _ _ trivial ?_
            clear hK K
            intro hS
            clear EX
            generalize V3.alloc (.cells #[.int .i64 0, .int .i64 0, .int .i64 0, .int .i64 0, .int .i64 0, .int .i64 0, .int .i64 0, .slice none 0 0] 40) = V4 at *
            have EX := EX4
            clear EX4
            generalize V3.heap.size = g at *
            (try simp only [Act.put, List.getElem_toArray, List.getElem_cons_succ, List.getElem_cons_zero, List.setIfInBounds_toArray, List.set_cons_zero, List.set_cons_succ])
            (refine wpAnyH_ready (rs := [12]) (by kernel_rfl) (by simp) ?_; refine AllReadyH.cons rfl (fun K hK => ?_) AllReadyH.nil)
            rw [if_pos (by rfl)]
            refine wp_store_by _ _ _ rfl _ rfl (sto KG ⟨17, Pl.at2 xs 0, Pl.at2 (xs.drop 2) 0, 0, 0, 0, 0⟩ a3 n3 c3) rfl ?_
            refine hK.out _ _ trivial ?_
            clear hK K
            intro hS
            (try simp only [Act.put])
            refine wpAnyH_done (by kernel_rfl) ?_ _
            have K8 := KG.row ((⟨17, Pl.at2 xs 0, Pl.at2 (xs.drop 2) 0, 0, 0, 0, 0⟩ : Sg).cells (.slice a3 n3 c3))
            have o8 := o3.rowOff hob ((⟨17, Pl.at2 xs 0, Pl.at2 (xs.drop 2) 0, 0, 0, 0, 0⟩ : Sg).cells (.slice a3 n3 c3))
            have E8 := EX.row hgl ((⟨17, Pl.at2 xs 0, Pl.at2 (xs.drop 2) 0, 0, 0, 0, 0⟩ : Sg).cells (.slice a3 n3 c3))
            go_wp2_with fail
            go_meet
            exact ⟨_, _, rfl, hgl, o8, hob, K8, E8⟩
        · go_simp
          have KG := Blk.new V2 40 #[.int .i64 0, .int .i64 0, .int .i64 0, .int .i64 0, .int .i64 0, .int .i64 0, .int .i64 0, .slice none 0 0]
          have EX3 := EX.alloc (.cells #[.int .i64 0, .int .i64 0, .int .i64 0, .int .i64 0, .int .i64 0, .int .i64 0, .int .i64 0, .slice none 0 0] 40)
          have hgl : W0.heap.size ≤ V2.heap.size := EX.size
          refine hK.out _ _ trivial ?_
          clear hK K
          intro hS
          clear EX
          generalize V2.alloc (.cells #[.int .i64 0, .int .i64 0, .int .i64 0, .int .i64 0, .int .i64 0, .int .i64 0, .int .i64 0, .slice none 0 0] 40) = V3 at *
          have EX := EX3
          clear EX3
          generalize V2.heap.size = g at *
          (try simp only [Act.put, List.getElem_toArray, List.getElem_cons_succ, List.getElem_cons_zero, List.setIfInBounds_toArray, List.set_cons_zero, List.set_cons_succ])
          refine wpAnyH_ready (rs := [9]) (by kernel_rfl) (by simp) ?_
          refine AllReadyH.cons rfl (fun K hK => ?_) AllReadyH.nil
          · go_simp
            go_at_call 61
            refine (FC.out _ (E0.trans EX)).mono ?_
            rintro e V4 ⟨v3, rfl, o3, q⟩
            obtain ⟨a3, n3, c3, rfl, _, _⟩ := o3.read
            have hob : ∀ j, (Value.slice a3 n3 c3).ownBlock = some j → j ≠ g := fun j hj => by
              have h1 := o3.lt j hj
              have h2 := KG.lt
              omega
            replace KG := KG.ext q
            replace o3 := o3.mono EX.size
            replace EX := EX.trans q
            refine hK.out _ _ trivial ?_
            clear hK K q
            intro hS
            (try simp only [Act.put, List.getElem_toArray, List.getElem_cons_succ, List.getElem_cons_zero, List.setIfInBounds_toArray, List.set_cons_zero, List.set_cons_succ])
            (refine wpAnyH_take (i := 10) (v := ?_) rfl (by kernel_rfl) (by kernel_rfl) (by kernel_rfl) (fun _ _ _ h => h) (Or.inl ⟨by rfl, ?_⟩) (by assumption) ?_; rotate_left; focus (intro w hSw; (try dsimp only at hSw); go_simp; try with_reducible rfl); try simp only [Act.put, List.getElem_toArray, List.getElem_cons_succ, List.getElem_cons_zero, List.setIfInBounds_toArray, List.set_cons_zero, List.set_cons_succ])
            (refine wpAnyH_ready (rs := [12]) (by kernel_rfl) (by simp) ?_; refine AllReadyH.cons rfl (fun K hK => ?_) AllReadyH.nil)
            rw [if_pos (by rfl)]
            refine wp_store_by _ _ _ rfl _ rfl (sto KG ⟨17, Pl.at2 xs 0, Pl.at2 (xs.drop 2) 0, 0, 0, 0, 0⟩ a3 n3 c3) rfl ?_
            refine hK.out _ _ trivial ?_
            clear hK K
            intro hS
            (try simp only [Act.put, List.getElem_toArray, List.getElem_cons_succ, List.getElem_cons_zero, List.setIfInBounds_toArray, List.set_cons_zero, List.set_cons_succ])
            refine wpAnyH_done (by kernel_rfl) ?_ _
            have K8 := KG.row ((⟨17, Pl.at2 xs 0, Pl.at2 (xs.drop 2) 0, 0, 0, 0, 0⟩ : Sg).cells (.slice a3 n3 c3))
            have o8 := o3.rowOff hob ((⟨17, Pl.at2 xs 0, Pl.at2 (xs.drop 2) 0, 0, 0, 0, 0⟩ : Sg).cells (.slice a3 n3 c3))
            have E8 := EX.row hgl ((⟨17, Pl.at2 xs 0, Pl.at2 (xs.drop 2) 0, 0, 0, 0, 0⟩ : Sg).cells (.slice a3 n3 c3))
            go_wp2_with fail
            go_meet
            exact ⟨_, _, rfl, hgl, o8, hob, K8, E8⟩
      · go_simp
        have KG := Blk.new V1 40 #[.int .i64 0, .int .i64 0, .int .i64 0, .int .i64 0, .int .i64 0, .int .i64 0, .int .i64 0, .slice none 0 0]
        have EX2 := EX.alloc (.cells #[.int .i64 0, .int .i64 0, .int .i64 0, .int .i64 0, .int .i64 0, .int .i64 0, .int .i64 0, .slice none 0 0] 40)
        have hgl : W0.heap.size ≤ V1.heap.size := EX.size
        refine hK.out _ _ trivial ?_
        clear hK K
        intro hS
        clear EX
        generalize V1.alloc (.cells #[.int .i64 0, .int .i64 0, .int .i64 0, .int .i64 0, .int .i64 0, .int .i64 0, .int .i64 0, .slice none 0 0] 40) = V2 at *
        have EX := EX2
        clear EX2
        generalize V1.heap.size = g at *
        (try simp only [Act.put, List.getElem_toArray, List.getElem_cons_succ, List.getElem_cons_zero, List.setIfInBounds_toArray, List.set_cons_zero, List.set_cons_succ])
        refine wpAnyH_ready (rs := [5]) (by kernel_rfl) (by simp) ?_
        refine AllReadyH.cons rfl (fun K hK => ?_) AllReadyH.nil
        · go_simp
          go_at_call 80
          refine (F2.out _ (E0.trans EX)).mono ?_
          rintro e V3 ⟨rfl, q⟩
          replace EX := EX.trans q
          replace KG := KG.ext q
          refine hK.out _ _ trivial ?_
          clear hK K q
          intro hS
          (try simp only [Act.put, List.getElem_toArray, List.getElem_cons_succ, List.getElem_cons_zero, List.setIfInBounds_toArray, List.set_cons_zero, List.set_cons_succ])
          refine wpAnyH_ready (rs := [9]) (by kernel_rfl) (by simp) ?_
          refine AllReadyH.cons rfl (fun K hK => ?_) AllReadyH.nil
          · go_simp
            go_at_call 61
            refine (FC.out _ (E0.trans EX)).mono ?_
            rintro e V4 ⟨v3, rfl, o3, q⟩
            obtain ⟨a3, n3, c3, rfl, _, _⟩ := o3.read
            have hob : ∀ j, (Value.slice a3 n3 c3).ownBlock = some j → j ≠ g := fun j hj => by
              have h1 := o3.lt j hj
              have h2 := KG.lt
              omega
            replace KG := KG.ext q
            replace o3 := o3.mono EX.size
            replace EX := EX.trans q
            refine hK.out _ _ trivial ?_
            clear hK K q
            intro hS
            (try simp only [Act.put, List.getElem_toArray, List.getElem_cons_succ, List.getElem_cons_zero, List.setIfInBounds_toArray, List.set_cons_zero, List.set_cons_succ])
            (refine wpAnyH_take (i := 10) (v := ?_) rfl (by kernel_rfl) (by kernel_rfl) (by kernel_rfl) (fun _ _ _ h => h) (Or.inl ⟨by rfl, ?_⟩) (by assumption) ?_; rotate_left; focus (intro w hSw; (try dsimp only at hSw); go_simp; try with_reducible rfl); try simp only [Act.put, List.getElem_toArray, List.getElem_cons_succ, List.getElem_cons_zero, List.setIfInBounds_toArray, List.set_cons_zero, List.set_cons_succ])
            (refine wpAnyH_ready (rs := [12]) (by kernel_rfl) (by simp) ?_; refine AllReadyH.cons rfl (fun K hK => ?_) AllReadyH.nil)
            rw [if_pos (by rfl)]
            refine wp_store_by _ _ _ rfl _ rfl (sto KG ⟨17, Pl.at2 xs 0, Pl.at2 (xs.drop 2) 0, 0, 0, 0, 0⟩ a3 n3 c3) rfl ?_
            refine hK.out _ _ trivial ?_
            clear hK K
            intro hS
            (try simp only [Act.put, List.getElem_toArray, List.getElem_cons_succ, List.getElem_cons_zero, List.setIfInBounds_toArray, List.set_cons_zero, List.set_cons_succ])
            refine wpAnyH_done (by kernel_rfl) ?_ _
            have K8 := KG.row ((⟨17, Pl.at2 xs 0, Pl.at2 (xs.drop 2) 0, 0, 0, 0, 0⟩ : Sg).cells (.slice a3 n3 c3))
            have o8 := o3.rowOff hob ((⟨17, Pl.at2 xs 0, Pl.at2 (xs.drop 2) 0, 0, 0, 0, 0⟩ : Sg).cells (.slice a3 n3 c3))
            have E8 := EX.row hgl ((⟨17, Pl.at2 xs 0, Pl.at2 (xs.drop 2) 0, 0, 0, 0, 0⟩ : Sg).cells (.slice a3 n3 c3))
            go_wp2_with fail
            go_meet
            exact ⟨_, _, rfl, hgl, o8, hob, K8, E8⟩
    · go_simp
      have KG := Blk.new V0 40 #[.int .i64 0, .int .i64 0, .int .i64 0, .int .i64 0, .int .i64 0, .int .i64 0, .int .i64 0, .slice none 0 0]
      have EX1 := EX.alloc (.cells #[.int .i64 0, .int .i64 0, .int .i64 0, .int .i64 0, .int .i64 0, .int .i64 0, .int .i64 0, .slice none 0 0] 40)
      have hgl : W0.heap.size ≤ V0.heap.size := EX.size
      refine hK.out _ _ trivial ?_
      clear hK K
      intro hS
      clear EX
      generalize V0.alloc (.cells #[.int .i64 0, .int .i64 0, .int .i64 0, .int .i64 0, .int .i64 0, .int .i64 0, .int .i64 0, .slice none 0 0] 40) = V1 at *
      have EX := EX1
      clear EX1
      generalize V0.heap.size = g at *
      (try simp only [Act.put, List.getElem_toArray, List.getElem_cons_succ, List.getElem_cons_zero, List.setIfInBounds_toArray, List.set_cons_zero, List.set_cons_succ])
      refine wpAnyH_ready (rs := [2]) (by kernel_rfl) (by simp) ?_
      refine AllReadyH.cons rfl (fun K hK => ?_) AllReadyH.nil
      · go_simp
        go_at_call 80
        refine (F0.out _ (E0.trans EX)).mono ?_
        rintro e V2 ⟨rfl, q⟩
        replace EX := EX.trans q
        replace KG := KG.ext q
        refine hK.out _ _ trivial ?_
        clear hK K q
        intro hS
        (try simp only [Act.put, List.getElem_toArray, List.getElem_cons_succ, List.getElem_cons_zero, List.setIfInBounds_toArray, List.set_cons_zero, List.set_cons_succ])
        refine wpAnyH_ready (rs := [5]) (by kernel_rfl) (by simp) ?_
        refine AllReadyH.cons rfl (fun K hK => ?_) AllReadyH.nil
        · go_simp
          go_at_call 80
          refine (F2.out _ (E0.trans EX)).mono ?_
          rintro e V3 ⟨rfl, q⟩
          replace EX := EX.trans q
          replace KG := KG.ext q
          refine hK.out _ _ trivial ?_
          clear hK K q
          intro hS
          (try simp only [Act.put, List.getElem_toArray, List.getElem_cons_succ, List.getElem_cons_zero, List.setIfInBounds_toArray, List.set_cons_zero, List.set_cons_succ])
          refine wpAnyH_ready (rs := [9]) (by kernel_rfl) (by simp) ?_
          refine AllReadyH.cons rfl (fun K hK => ?_) AllReadyH.nil
          · go_simp
            go_at_call 61
            refine (FC.out _ (E0.trans EX)).mono ?_
            rintro e V4 ⟨v3, rfl, o3, q⟩
            obtain ⟨a3, n3, c3, rfl, _, _⟩ := o3.read
            have hob : ∀ j, (Value.slice a3 n3 c3).ownBlock = some j → j ≠ g := fun j hj => by
              have h1 := o3.lt j hj
              have h2 := KG.lt
              omega
            replace KG := KG.ext q
            replace o3 := o3.mono EX.size
            replace EX := EX.trans q
            refine hK.out _ _ trivial ?_
            clear hK K q
            intro hS
            (try simp only [Act.put, List.getElem_toArray, List.getElem_cons_succ, List.getElem_cons_zero, List.setIfInBounds_toArray, List.set_cons_zero, List.set_cons_succ])
            (refine wpAnyH_take (i := 10) (v := ?_) rfl (by kernel_rfl) (by kernel_rfl) (by kernel_rfl) (fun _ _ _ h => h) (Or.inl ⟨by rfl, ?_⟩) (by assumption) ?_; rotate_left; focus (intro w hSw; (try dsimp only at hSw); go_simp; try with_reducible rfl); try simp only [Act.put, List.getElem_toArray, List.getElem_cons_succ, List.getElem_cons_zero, List.setIfInBounds_toArray, List.set_cons_zero, List.set_cons_succ])
            (refine wpAnyH_ready (rs := [12]) (by kernel_rfl) (by simp) ?_; refine AllReadyH.cons rfl (fun K hK => ?_) AllReadyH.nil)
            rw [if_pos (by rfl)]
            refine wp_store_by _ _ _ rfl _ rfl (sto KG ⟨17, Pl.at2 xs 0, Pl.at2 (xs.drop 2) 0, 0, 0, 0, 0⟩ a3 n3 c3) rfl ?_
            refine hK.out _ _ trivial ?_
            clear hK K
            intro hS
            (try simp only [Act.put, List.getElem_toArray, List.getElem_cons_succ, List.getElem_cons_zero, List.setIfInBounds_toArray, List.set_cons_zero, List.set_cons_succ])
            refine wpAnyH_done (by kernel_rfl) ?_ _
            have K8 := KG.row ((⟨17, Pl.at2 xs 0, Pl.at2 (xs.drop 2) 0, 0, 0, 0, 0⟩ : Sg).cells (.slice a3 n3 c3))
            have o8 := o3.rowOff hob ((⟨17, Pl.at2 xs 0, Pl.at2 (xs.drop 2) 0, 0, 0, 0, 0⟩ : Sg).cells (.slice a3 n3 c3))
            have E8 := EX.row hgl ((⟨17, Pl.at2 xs 0, Pl.at2 (xs.drop 2) 0, 0, 0, 0, 0⟩ : Sg).cells (.slice a3 n3 c3))
            go_wp2_with fail
            go_meet
            exact ⟨_, _, rfl, hgl, o8, hob, K8, E8⟩
  obtain ⟨g, v, rfl, hgl, ov, hvg, KG, EG⟩ := hcut
  have EW := E0.trans EG
  have KW := KR.ext EG
  have hvw : ∀ k, v.ownBlock = some k → k ≠ w.heap.size := fun k hk => by have := (ov.lt k hk).1; have := KR.lt; omega
  have hd : (⟨17, Pl.at2 xs 0, Pl.at2 (xs.drop 2) 0, 0, 0, 0, 0⟩ : Sg) = Pl.decSeg 17 xs := by
    rw [Pl.at2_drop]
    rfl
  rw [hd] at KG
  have ow := ov.mono E0.size
  generalize W0.heap.size = Z0 at *
  clear hd E0 EG KR F0 F2 FC hvg ov
  obtain ⟨av, nv, cv, rfl, _, rv⟩ := ow.read
  have hnv : nv = n - 8 := by have h1 := rv.len; have h2 := HL.out; rw [List.length_drop] at h1; omega
  have hok : Pl.SegOk (Pl.decSeg 17 xs) nv := Pl.decSeg_ok (by decide) HB.out (by omega)
  have ld := KG.seg
  clear hnv
  go_wp2_with ((apply load_by rfl _ _ rfl _ rfl); (focus (with_reducible assumption)))
  refine (sencode_any (Pl.decSeg 17 xs) av nv cv (xs.drop 8) over wc hok rv (HB.out.drop 8) HO.out).mono ?_
  rintro e W2 ⟨v2, rfl, o2, q2⟩
  have E2 := EW.trans q2
  have KG2 := KG.ext q2
  have KW2 := KW.ext q2
  have ow2 := ow.ext q2
  have i2 := HR.out.ext E2
  have hok' : Pl.SegOk (Pl.decSeg 17 xs) (xs.drop 8).length := by rw [rv.len]; exact hok
  have hI : Pl.IsB (Pl.segBytes (Pl.decSeg 17 xs) (Pl.segCheck (Pl.decSeg 17 xs) over (xs.drop 8)) (xs.drop 8)) := Pl.segBytes_isB hok' (Pl.segCheck_bd _ _ _) (HB.out.drop _)
  have hlen := Pl.segBytes_length (s := Pl.decSeg 17 xs) (c := Pl.segCheck (Pl.decSeg 17 xs) over (xs.drop 8)) (xs := xs.drop 8) (by rw [Pl.decSeg_kind]; decide)
  rw [Pl.decSeg_kind, show Pl.segSize 17 = 8 from rfl, List.length_drop, HL.out] at hlen
  have HYES := Lib.hid (Pl.segQ_yes (k := 17) (xs := xs) (over := over) (by decide) HO.out HB.out (by rw [HL.out]; exact ⟨h0, h1⟩))
  have HSUM := Lib.hid (Pl.segQ_sum (k := 17) (xs := xs) (over := over) (by decide) HO.out HB.out (by rw [HL.out]; exact ⟨h0, h1⟩))
  have HSYN := Lib.hid (Pl.segQ_syn (k := 17) (xs := xs) (over := over) (by decide) HO.out HB.out (by rw [HL.out]; exact ⟨h0, h1⟩))
  rw [show Pl.segSize 17 = 8 from rfl] at HYES HSUM HSYN
  have hwl := q2.size
  have hww := KW.lt
  obtain ⟨EN, hEN⟩ : ∃ EN, Pl.segBytes (Pl.decSeg 17 xs) (Pl.segCheck (Pl.decSeg 17 xs) over (xs.drop 8)) (xs.drop 8) = EN := ⟨_, rfl⟩
  rw [hEN] at hI hlen HYES HSUM HSYN o2
  have HI := Lib.hid hI
  have HLEN := Lib.hid hlen
  have HOW2 := Lib.hid ow2
  have HOV := Lib.hid hvw
  clear hEN hI hlen ld KG KW ow EW q2 rv hok hok' ow2 hvw
  by_cases hE : EN = xs
  · obtain ⟨a2, n2, c2, rfl, hc2, r2⟩ := o2.read
    have HQ := Lib.hid (HYES.out hE)
    rw [hE] at r2
    clear hE
    go_wp2_with fail
    refine (equal_yes _ _ _ _ _ _ xs W2 r2 i2).mono ?_
    rintro e w' ⟨rfl, rfl⟩
    have ld := KG2.seg
    have s2 := sto KW2 (Pl.decSeg 17 xs) av nv cv
    go_wp2_with (first | ((apply load_by rfl _ _ rfl _ rfl); (focus (with_reducible assumption))) | ((apply store_by rfl _ _ _ rfl _ rfl); (focus (with_reducible assumption)); (focus rfl)))
    refine bodyPost_ret (results_cell2 Tryz.results37 _ _ w.heap.size 40 ((Pl.decSeg 17 xs).cells (.slice av nv cv)) _ rfl (KW2.row _) Tryz.underlying40 rfl Tryz.sizeSeg) rfl ?_
    refine ⟨.slice av nv cv, ?_, ?_, E2.row (Nat.le_refl _) _⟩
    · unfold Pl.segV
      rw [HQ.out, if_pos rfl]
      rfl
    · unfold Pl.segD
      rw [HQ.out, if_pos rfl]
      exact HOW2.out.rowOff HOV.out _
  have HE := Lib.hid hE
  clear hE
  obtain ⟨g5, n5, c5, rfl, hn5, hc5, hg5, hg5', _, _⟩ := o2.shape (by have := HLEN.out; omega)
  obtain ⟨_, _, _, hv2, _, r2⟩ := o2.read
  cases hv2
  go_wp2_with fail
  refine (equal_no _ _ _ _ _ _ _ xs W2 r2 i2 HI.out HB.out HE.out).mono ?_
  rintro e w' ⟨rfl, rfl⟩
  have k10 : (6 : Int) ≤ (n5 : Int) := by have := HLEN.out; omega
  have k12 : (8 : Int) ≤ (n5 : Int) := by have := HLEN.out; omega
  have k12' : (8 : Int) ≤ (c5 : Int) := by have := HLEN.out; omega
  have kc : ¬ c5 = 6 := by omega
  have kn : (8 : Int) ≤ (n : Int) := by omega
  have kcc : (8 : Int) ≤ (c : Int) := by omega
  have kc' : ¬ c = 6 := by omega
  have is5 := i2.sub 6 8 (by omega) (by omega)
  have HN5 := Lib.hid hn5
  clear hn5
  have kw : IntKind.i64.wrap 8 = 8 := IntWalk.i64_in _ (by omega)
  go_upto_region 13 with (fail)
  refine wp_region_held_drew (S := (fun _ => True)) (by kernel_rfl) trivial (fun hS0 => ?_)
  have is5' := is5.ext (Ext.refl W2).drew
  have o2' := o2.ext (Ext.refl W2).drew
  (refine wpAnyH_take (i := 0) (v := ?_) rfl (by kernel_rfl) (by kernel_rfl) (by kernel_rfl) (fun _ _ _ h => h) (Or.inl ⟨by rfl, ?_⟩) (by assumption) ?_; rotate_left; focus (intro w hSw; (try dsimp only at hSw); go_simp; try with_reducible rfl); try simp only [Act.put, List.getElem_toArray, List.getElem_cons_succ, List.getElem_cons_zero, List.setIfInBounds_toArray, List.set_cons_zero, List.set_cons_succ])
  (refine wpAnyH_take (i := 1) (v := ?_) rfl (by kernel_rfl) (by kernel_rfl) (by kernel_rfl) (fun _ _ _ h => h) (Or.inl ⟨by rfl, ?_⟩) (by assumption) ?_; rotate_left; focus (intro w hSw; (try dsimp only at hSw); go_simp; try with_reducible rfl); try simp only [Act.put, List.getElem_toArray, List.getElem_cons_succ, List.getElem_cons_zero, List.setIfInBounds_toArray, List.set_cons_zero, List.set_cons_succ])
  (refine wpAnyH_take (i := 2) (v := ?_) rfl (by kernel_rfl) (by kernel_rfl) (by kernel_rfl) (fun _ _ _ h => h) (Or.inl ⟨by rfl, ?_⟩) (by assumption) ?_; rotate_left; focus (intro w hSw; (try dsimp only at hSw); go_simp; try with_reducible rfl); try simp only [Act.put, List.getElem_toArray, List.getElem_cons_succ, List.getElem_cons_zero, List.setIfInBounds_toArray, List.set_cons_zero, List.set_cons_succ])
  (refine wpAnyH_take (i := 3) (v := ?_) rfl (by kernel_rfl) (by kernel_rfl) (by kernel_rfl) (fun _ _ _ h => h) (Or.inl ⟨by rfl, ?_⟩) (by assumption) ?_; rotate_left; focus (intro w hSw; (try dsimp only at hSw); go_simp; try with_reducible rfl); try simp only [Act.put, List.getElem_toArray, List.getElem_cons_succ, List.getElem_cons_zero, List.setIfInBounds_toArray, List.set_cons_zero, List.set_cons_succ])
  (refine wpAnyH_take (i := 4) (v := ?_) rfl (by kernel_rfl) (by kernel_rfl) (by kernel_rfl) (fun _ _ _ h => h) (Or.inl ⟨by rfl, ?_⟩) (by assumption) ?_; rotate_left; focus (intro w hSw; (try dsimp only at hSw); go_simp; try with_reducible rfl); try simp only [Act.put, List.getElem_toArray, List.getElem_cons_succ, List.getElem_cons_zero, List.setIfInBounds_toArray, List.set_cons_zero, List.set_cons_succ])
  (refine wpAnyH_take (i := 5) (v := ?_) rfl (by kernel_rfl) (by kernel_rfl) (by kernel_rfl) (fun _ _ _ h => h) (Or.inl ⟨by rfl, ?_⟩) (by assumption) ?_; rotate_left; focus (intro w hSw; (try dsimp only at hSw); go_simp; try with_reducible rfl); try simp only [Act.put, List.getElem_toArray, List.getElem_cons_succ, List.getElem_cons_zero, List.setIfInBounds_toArray, List.set_cons_zero, List.set_cons_succ])
  (refine wpAnyH_take (i := 6) (v := ?_) rfl (by kernel_rfl) (by kernel_rfl) (by kernel_rfl) (fun _ _ _ h => h) (Or.inl ⟨by rfl, ?_⟩) (by assumption) ?_; rotate_left; focus (intro w hSw; (try dsimp only at hSw); go_simp; try with_reducible rfl); try simp only [Act.put, List.getElem_toArray, List.getElem_cons_succ, List.getElem_cons_zero, List.setIfInBounds_toArray, List.set_cons_zero, List.set_cons_succ])
  (refine wpAnyH_take (i := 7) (v := ?_) rfl (by kernel_rfl) (by kernel_rfl) (by kernel_rfl) (fun _ _ _ h => h) (Or.inl ⟨by rfl, ?_⟩) (by assumption) ?_; rotate_left; focus (intro w hSw; (try dsimp only at hSw); go_simp; try with_reducible rfl); try simp only [Act.put, List.getElem_toArray, List.getElem_cons_succ, List.getElem_cons_zero, List.setIfInBounds_toArray, List.set_cons_zero, List.set_cons_succ])
  (refine wpAnyH_take (i := 8) (v := ?_) rfl (by kernel_rfl) (by kernel_rfl) (by kernel_rfl) (fun _ _ _ h => h) (Or.inl ⟨by rfl, ?_⟩) (by assumption) ?_; rotate_left; focus (intro w hSw; (try dsimp only at hSw); go_simp; try with_reducible rfl); try simp only [Act.put, List.getElem_toArray, List.getElem_cons_succ, List.getElem_cons_zero, List.setIfInBounds_toArray, List.set_cons_zero, List.set_cons_succ])
  (refine wpAnyH_take (i := 9) (v := ?_) rfl (by kernel_rfl) (by kernel_rfl) (by kernel_rfl) (fun _ _ _ h => h) (Or.inl ⟨by rfl, ?_⟩) (by assumption) ?_; rotate_left; focus (intro w hSw; (try dsimp only at hSw); go_simp; try with_reducible rfl); try simp only [Act.put, List.getElem_toArray, List.getElem_cons_succ, List.getElem_cons_zero, List.setIfInBounds_toArray, List.set_cons_zero, List.set_cons_succ])
  (try simp only [Act.put, List.getElem_toArray, List.getElem_cons_succ, List.getElem_cons_zero, List.setIfInBounds_toArray, List.set_cons_zero, List.set_cons_succ])
  (refine wpAnyH_ready (rs := [10]) (by kernel_rfl) (by simp) ?_; refine AllReadyH.cons rfl (fun K hK => ?_) AllReadyH.nil)
  (try simp only [Act.put, List.getElem_toArray, List.getElem_cons_succ, List.getElem_cons_zero, List.setIfInBounds_toArray, List.set_cons_zero, List.set_cons_succ])
  rw [if_pos (by rfl)]
  apply wp_copy (d := Operand.tmp 92) (s := Operand.tmp 97) (hown := o2') (hr := is5') (lo := 6)
  case hgd => rfl
  case ho => rfl
  case hd => rfl
  case hs => rfl
  case hlo => omega
  intro W6 o6 b6
  refine hK.out _ _ trivial ?_
  clear hK K
  intro hS
  (try simp only [Act.put, List.setIfInBounds_toArray, List.set_cons_zero, List.set_cons_succ])
  refine wpAnyH_done (by kernel_rfl) ?_ _
  have E6 : Ext w W6 := Below.trans (Ext.drew E2) (Below.mono b6 (Nat.le_of_lt hww))
  have KW6 : Blk W6 w.heap.size 40 #[.int .i64 0, .int .i64 0, .int .i64 0, .int .i64 0, .int .i64 0, .int .i64 0, .int .i64 0, .slice none 0 0] := Blk.below (Blk.drew KW2) b6 hww
  have i6 := HR.out.ext E6
  have hP : EN.take 6 ++ ((xs.drop 6).take 2 ++ EN.drop (6 + 2)) = Pl.patchS 17 EN xs := by unfold Pl.patchS; rw [show Pl.segAt 17 = 6 from rfl]
  rw [hP] at o6
  have hI6 : Pl.IsB (Pl.patchS 17 EN xs) := (HI.out.take _).append (((HB.out.drop _).take 2).append (HI.out.drop _))
  have HI6 := Lib.hid hI6
  have HSM := Lib.hid (HSUM.out HE.out)
  clear hP hI6 is5 is5' o2' KG2 KW2 o2 r2 i2 kw k10 k12 k12' kc kn kcc kc' b6
  obtain ⟨_, _, _, hv6, _, r6⟩ := o6.read
  cases hv6
  have s6 := sto KW6 ⟨0, 0, 0, 0, 0, 0, 0⟩ none 0 0
  by_cases hQ : Pl.patchS 17 EN xs = xs
  · have HQ := Lib.hid (HSM.out hQ)
    rw [hQ] at r6
    clear hQ
    go_wp2_with fail
    refine (equal_yes _ _ _ _ _ _ xs W6 r6 i6).mono ?_
    rintro e w' ⟨rfl, rfl⟩
    go_wp2_with ((apply store_by rfl _ _ _ rfl _ rfl); (focus (with_reducible assumption)); (focus rfl))
    refine bodyPost_ret (results_cell2 Tryz.results37 _ _ w.heap.size 40 #[.int .i64 0, .int .i64 0, .int .i64 0, .int .i64 0, .int .i64 0, .int .i64 0, .int .i64 0, .slice none 0 0] _ rfl (KW6.row _) Tryz.underlying40 rfl Tryz.sizeSeg) rfl (decGot_bad HQ.out (by decide) (E6.row (Nat.le_refl _) _))
  · have HQ := Lib.hid (HSYN.out hQ)
    have HN := Lib.hid hQ
    clear hQ
    go_wp2_with fail
    refine (equal_no _ _ _ _ _ _ _ xs W6 r6 i6 HI6.out HB.out HN.out).mono ?_
    rintro e w' ⟨rfl, rfl⟩
    go_wp2_with ((apply store_by rfl _ _ _ rfl _ rfl); (focus (with_reducible assumption)); (focus rfl))
    refine bodyPost_ret (results_cell2 Tryz.results37 _ _ w.heap.size 40 #[.int .i64 0, .int .i64 0, .int .i64 0, .int .i64 0, .int .i64 0, .int .i64 0, .int .i64 0, .slice none 0 0] _ rfl (KW6.row _) Tryz.underlying40 rfl Tryz.sizeSeg) rfl (decGot_bad HQ.out (by decide) (E6.row (Nat.le_refl _) _))
end Go.Proofs.YtbjogkpepfgegaaGreatDoor
