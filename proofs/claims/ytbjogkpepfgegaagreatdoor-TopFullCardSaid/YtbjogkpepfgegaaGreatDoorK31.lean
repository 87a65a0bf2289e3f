/- The contract of seg.Decode of bytes that are not too short or long, of TCP. Conditions: as each theorem states them. -/
import Derived.Test.YtbjogkpepfgegaaGreatDoorK28
namespace Go.Proofs.YtbjogkpepfgegaaGreatDoor
open Go.RowKit
set_option maxRecDepth 100000 in
set_option maxHeartbeats 8000000 in
theorem sdecode_core6 (a : Option Addr) (n c : Nat) (xs : List Int) (over : Int) (w : World) (hr : Ints .u8 w a n xs) (hb : Pl.IsB xs) (hnc : n ≤ c) (hc : a = none → c = 0) (ho : Pl.Word over) (h0 : 20 ≤ n) (h1 : n ≤ 320) :
    Calls Tryz.prog 37 #[.int .i64 6, .slice a n c, .int .i64 over] w (DecGot 6 xs over w) := by
  obtain ⟨b, off, rfl, hbl, hcell⟩ := hr.at (by omega)
  have hl := hr.len
  have HR := Lib.hid hr
  have HB := Lib.hid hb
  have HO := Lib.hid ho
  have HL := Lib.hid hl
  have KR := Blk.new w 40 #[.int .i64 0, .int .i64 0, .int .i64 0, .int .i64 0, .int .i64 0, .int .i64 0, .int .i64 0, .slice none 0 0]
  have E0 : Ext w (w.alloc (.cells #[.int .i64 0, .int .i64 0, .int .i64 0, .int .i64 0, .int .i64 0, .int .i64 0, .int .i64 0, .slice none 0 0] 40)) := (Ext.refl w).alloc _
  obtain ⟨A2, i2, z2, r2⟩ := slice_tail (some ⟨b, off, none⟩) n c 2 2 rfl (by omega) hnc hc
  obtain ⟨AS, iS, zS, rS⟩ := slice_tail (some ⟨b, off, none⟩) n c 20 20 rfl (by omega) hnc hc
  have F0 := Lib.hid (fun (W : World) (q : Ext w W) => snumber_ext (some ⟨b, off, none⟩) n c xs W (hr.ext q) hb (by omega))
  have F2 := Lib.hid (fun (W : World) (q : Ext w W) => snumber_ext A2 (n - 2) (c - 2) (xs.drop 2) W ((i2 w xs hr).ext q) (hb.drop 2) (by omega))
  have FC := Lib.hid (fun (W : World) (q : Ext w W) => clone_ext AS (n - 20) (c - 20) (xs.drop 20) W ((iS w xs hr).ext q) zS (by omega))
  obtain ⟨A4, i4, z4, r4⟩ := slice_tail (some ⟨b, off, none⟩) n c 4 4 rfl (by omega) hnc hc
  have F4 := Lib.hid (fun (W : World) (q : Ext w W) => snumber_ext A4 (n - 4) (c - 4) (xs.drop 4) W ((i4 w xs hr).ext q) (hb.drop 4) (by omega))
  clear i4 z4
  obtain ⟨A6, i6, z6, r6⟩ := slice_tail (some ⟨b, off, none⟩) n c 6 6 rfl (by omega) hnc hc
  have F6 := Lib.hid (fun (W : World) (q : Ext w W) => snumber_ext A6 (n - 6) (c - 6) (xs.drop 6) W ((i6 w xs hr).ext q) (hb.drop 6) (by omega))
  clear i6 z6
  obtain ⟨A8, i8, z8, r8⟩ := slice_tail (some ⟨b, off, none⟩) n c 8 8 rfl (by omega) hnc hc
  have F8 := Lib.hid (fun (W : World) (q : Ext w W) => snumber_ext A8 (n - 8) (c - 8) (xs.drop 8) W ((i8 w xs hr).ext q) (hb.drop 8) (by omega))
  clear i8 z8
  obtain ⟨A10, i10, z10, r10⟩ := slice_tail (some ⟨b, off, none⟩) n c 10 10 rfl (by omega) hnc hc
  have F10 := Lib.hid (fun (W : World) (q : Ext w W) => snumber_ext A10 (n - 10) (c - 10) (xs.drop 10) W ((i10 w xs hr).ext q) (hb.drop 10) (by omega))
  clear i10 z10
  obtain ⟨A14, i14, z14, r14⟩ := slice_tail (some ⟨b, off, none⟩) n c 14 14 rfl (by omega) hnc hc
  have F14 := Lib.hid (fun (W : World) (q : Ext w W) => snumber_ext A14 (n - 14) (c - 14) (xs.drop 14) W ((i14 w xs hr).ext q) (hb.drop 14) (by omega))
  clear i14 z14
  have l0 : ¬ (n : Int) < 20 := by omega
  have l1 : ¬ (320 : Int) < (n : Int) := by omega
  have HCELL := Lib.hid hcell
  clear hcell hr hb ho hl i2 iS z2 zS hc
  go_enter Tryz.func37, Tryz.ntmps37
  go_wp2_with fail
  refine (known_any _ _).mono ?_
  rintro e w' ⟨rfl, rfl⟩
  go_wp2_with fail
  refine (sword_yes over _ HO.out).mono ?_
  rintro e w' ⟨rfl, rfl⟩
  go_wp2_with fail
  refine (head_6 _).mono ?_
  rintro e w' ⟨rfl, rfl⟩
  go_upto_region 6 with (fail)
  refine at_worldE (fun W => Ext w W ∧ Blk W w.heap.size 40 #[.int .i64 0, .int .i64 0, .int .i64 0, .int .i64 0, .int .i64 0, .int .i64 0, .int .i64 0, .slice none 0 0]) ⟨E0, KR⟩ ?_
  clear E0 KR
  rintro W0 ⟨E0, KR⟩
  go_cut [10] (fun p wc => ∃ g v, p = .pointer (some ⟨g, 0, none⟩) ∧ W0.heap.size ≤ g ∧ Own wc W0.heap.size v (xs.drop 20) ∧ (∀ k, v.ownBlock = some k → k ≠ g) ∧ Blk wc g 40 ((⟨6, Pl.at2 xs 0, Pl.at2 (xs.drop 2) 0, 0, 0, 0, 0⟩ : Sg).cells v) ∧ Ext W0 wc)
  case first =>
    have EX : Ext W0 W0.drew := (Ext.refl W0).drew
    refine wp_region_held_drew (S := (fun _ => True)) (by kernel_rfl) trivial (fun hS0 => ?_)
    generalize W0.drew = V0 at *
    (refine wpAnyH_take (i := 0) (v := ?_) rfl (by kernel_rfl) (by kernel_rfl) (by kernel_rfl) (fun _ _ _ h => h) (Or.inl ⟨by rfl, ?_⟩) (by assumption) ?_; rotate_left; focus (intro w hSw; (try dsimp only at hSw); go_simp; try with_reducible rfl); try simp only [Act.put, List.getElem_toArray, List.getElem_cons_succ, List.getElem_cons_zero, List.setIfInBounds_toArray, List.set_cons_zero, List.set_cons_succ])
    (refine wpAnyH_take (i := 1) (v := ?_) rfl (by kernel_rfl) (by kernel_rfl) (by kernel_rfl) (fun _ _ _ h => h) (Or.inl ⟨by rfl, ?_⟩) (by assumption) ?_; rotate_left; focus (intro w hSw; (try dsimp only at hSw); go_simp; try with_reducible rfl); try simp only [Act.put, List.getElem_toArray, List.getElem_cons_succ, List.getElem_cons_zero, List.setIfInBounds_toArray, List.set_cons_zero, List.set_cons_succ])
    (refine wpAnyH_take (i := 3) (v := ?_) rfl (by kernel_rfl) (by kernel_rfl) (by kernel_rfl) (fun _ _ _ h => h) (Or.inl ⟨by rfl, ?_⟩) (by assumption) ?_; rotate_left; focus (intro w hSw; (try dsimp only at hSw); go_simp; try with_reducible rfl); try simp only [Act.put, List.getElem_toArray, List.getElem_cons_succ, List.getElem_cons_zero, List.setIfInBounds_toArray, List.set_cons_zero, List.set_cons_succ])
    (refine wpAnyH_take (i := 4) (v := ?_) rfl (by kernel_rfl) (by kernel_rfl) (by kernel_rfl) (fun _ _ _ h => h) (Or.inl ⟨by rfl, ?_⟩) (by assumption) ?_; rotate_left; focus (intro w hSw; (try dsimp only at hSw); go_simp; try with_reducible rfl); try simp only [Act.put, List.getElem_toArray, List.getElem_cons_succ, List.getElem_cons_zero, List.setIfInBounds_toArray, List.set_cons_zero, List.set_cons_succ])
    (refine wpAnyH_take (i := 6) (v := ?_) rfl (by kernel_rfl) (by kernel_rfl) (by kernel_rfl) (fun _ _ _ h => h) (Or.inl ⟨by rfl, ?_⟩) (by assumption) ?_; rotate_left; focus (intro w hSw; (try dsimp only at hSw); go_simp; try with_reducible rfl); try simp only [Act.put, List.getElem_toArray, List.getElem_cons_succ, List.getElem_cons_zero, List.setIfInBounds_toArray, List.set_cons_zero, List.set_cons_succ])
    (refine wpAnyH_take (i := 7) (v := ?_) rfl (by kernel_rfl) (by kernel_rfl) (by kernel_rfl) (fun _ _ _ h => h) (Or.inl ⟨by rfl, ?_⟩) (by assumption) ?_; rotate_left; focus (intro w hSw; (try dsimp only at hSw); go_simp; try with_reducible rfl); try simp only [Act.put, List.getElem_toArray, List.getElem_cons_succ, List.getElem_cons_zero, List.setIfInBounds_toArray, List.set_cons_zero, List.set_cons_succ])
    (refine wpAnyH_take (i := 8) (v := ?_) rfl (by kernel_rfl) (by kernel_rfl) (by kernel_rfl) (fun _ _ _ h => h) (Or.inl ⟨by rfl, ?_⟩) (by assumption) ?_; rotate_left; focus (intro w hSw; (try dsimp only at hSw); go_simp; try with_reducible rfl); try simp only [Act.put, List.getElem_toArray, List.getElem_cons_succ, List.getElem_cons_zero, List.setIfInBounds_toArray, List.set_cons_zero, List.set_cons_succ])
    refine wpAnyH_ready (rs := [2, 11]) (by kernel_rfl) (by simp) ?_
    refine AllReadyH.cons rfl (fun K hK => ?_) (AllReadyH.cons rfl (fun K hK => ?_) AllReadyH.nil)
    · go_simp
      go_at_call 80
      refine (F0.out _ (E0.trans EX)).mono ?_
      rintro e V1 ⟨rfl, q⟩
      replace EX := EX.trans q
      refine hK.out _ _ trivial ?_
      clear hK K q
      intro hS
      (try simp only [Act.put, List.getElem_toArray, List.getElem_cons_succ, List.getElem_cons_zero, List.setIfInBounds_toArray, List.set_cons_zero, List.set_cons_succ])
      refine wpAnyH_ready (rs := [5, 11]) (by kernel_rfl) (by simp) ?_
      refine AllReadyH.cons rfl (fun K hK => ?_) (AllReadyH.cons rfl (fun K hK => ?_) AllReadyH.nil)
      · go_simp
        go_at_call 80
        refine (F2.out _ (E0.trans EX)).mono ?_
        rintro e V2 ⟨rfl, q⟩
        replace EX := EX.trans q
        refine hK.out _ _ trivial ?_
        clear hK K q
        intro hS
        (try simp only [Act.put, List.getElem_toArray, List.getElem_cons_succ, List.getElem_cons_zero, List.setIfInBounds_toArray, List.set_cons_zero, List.set_cons_succ])
        refine wpAnyH_ready (rs := [9, 11]) (by kernel_rfl) (by simp) ?_
        refine AllReadyH.cons rfl (fun K hK => ?_) (AllReadyH.cons rfl (fun K hK => ?_) AllReadyH.nil)
        · go_simp
          go_at_call 61
          refine (FC.out _ (E0.trans EX)).mono ?_
          rintro e V3 ⟨v3, rfl, o3, q⟩
          obtain ⟨a3, n3, c3, rfl, _, _⟩ := o3.read
          replace o3 := o3.mono EX.size
          replace EX := EX.trans q
          refine hK.out _ _ trivial ?_
          clear hK K q
          intro hS
          (try simp only [Act.put, List.getElem_toArray, List.getElem_cons_succ, List.getElem_cons_zero, List.setIfInBounds_toArray, List.set_cons_zero, List.set_cons_succ])
          (refine wpAnyH_take (i := 10) (v := ?_) rfl (by kernel_rfl) (by kernel_rfl) (by kernel_rfl) (fun _ _ _ h => h) (Or.inl ⟨by rfl, ?_⟩) (by assumption) ?_; rotate_left; focus (intro w hSw; (try dsimp only at hSw); go_simp; try with_reducible rfl); try simp only [Act.put, List.getElem_toArray, List.getElem_cons_succ, List.getElem_cons_zero, List.setIfInBounds_toArray, List.set_cons_zero, List.set_cons_succ])
          refine wpAnyH_ready (rs := [11]) (by kernel_rfl) (by simp) ?_
          refine AllReadyH.cons rfl (fun K hK => ?_) AllReadyH.nil
          · go_simp
            have KG := Blk.new V3 40 #[.int .i64 0, .int .i64 0, .int .i64 0, .int .i64 0, .int .i64 0, .int .i64 0, .int .i64 0, .slice none 0 0]
            have EX4 := EX.alloc (.cells #[.int .i64 0, .int .i64 0, .int .i64 0, .int .i64 0, .int .i64 0, .int .i64 0, .int .i64 0, .slice none 0 0] 40)
            have hgl : W0.heap.size ≤ V3.heap.size := EX.size
            have hob : ∀ j, (Value.slice a3 n3 c3).ownBlock = some j → j ≠ V3.heap.size := fun j hj => by
              have h1 := o3.lt j hj
              omega
            replace o3 := o3.ext ((Ext.refl V3).alloc (.cells #[.int .i64 0, .int .i64 0, .int .i64 0, .int .i64 0, .int .i64 0, .int .i64 0, .int .i64 0, .slice none 0 0] 40))
            refine hK.out _ _ trivial ?_
            clear hK K
            intro hS
            clear EX
            generalize V3.alloc (.cells #[.int .i64 0, .int .i64 0, .int .i64 0, .int .i64 0, .int .i64 0, .int .i64 0, .int .i64 0, .slice none 0 0] 40) = V4 at *
            have EX := EX4
            clear EX4
            generalize V3.heap.size = g at *
            (try simp only [Act.put, List.getElem_toArray, List.getElem_cons_succ, List.getElem_cons_zero, List.setIfInBounds_toArray, List.set_cons_zero, List.set_cons_succ])
            (refine wpAnyH_ready (rs := [12]) (by kernel_rfl) (by simp) ?_; refine AllReadyH.cons rfl (fun K hK => ?_) AllReadyH.nil)
            rw [if_pos (by rfl)]
            refine wp_store_by _ _ _ rfl _ rfl (sto KG ⟨6, Pl.at2 xs 0, Pl.at2 (xs.drop 2) 0, 0, 0, 0, 0⟩ a3 n3 c3) rfl ?_
            refine hK.out _ _ trivial ?_
            clear hK K
            intro hS
            (try simp only [Act.put])
            refine wpAnyH_done (by kernel_rfl) ?_ _
            have K8 := KG.row ((⟨6, Pl.at2 xs 0, Pl.at2 (xs.drop 2) 0, 0, 0, 0, 0⟩ : Sg).cells (.slice a3 n3 c3))
            have o8 := o3.rowOff hob ((⟨6, Pl.at2 xs 0, Pl.at2 (xs.drop 2) 0, 0, 0, 0, 0⟩ : Sg).cells (.slice a3 n3 c3))
            have E8 := EX.row hgl ((⟨6, Pl.at2 xs 0, Pl.at2 (xs.drop 2) 0, 0, 0, 0, 0⟩ : Sg).cells (.slice a3 n3 c3))
            go_wp2_with fail
            go_meet
            exact ⟨_, _, rfl, hgl, o8, hob, K8, E8⟩
        · go_simp
          have KG := Blk.new V2 40 #[.int .i64 0, .int .i64 0, .int .i64 0, .int .i64 0, .int .i64 0, .int .i64 0, .int .i64 0, .slice none 0 0]
          have EX3 := EX.alloc (.cells #[.int .i64 0, .int .i64 0, .int .i64 0, .int .i64 0, .int .i64 0, .int .i64 0, .int .i64 0, .slice none 0 0] 40)
          have hgl : W0.heap.size ≤ V2.heap.size := EX.size
          refine hK.out _ _ trivial ?_
          clear hK K
          intro hS
          clear EX
          generalize V2.alloc (.cells #[.int .i64 0, .int .i64 0, .int .i64 0, .int .i64 0, .int .i64 0, .int .i64 0, .int .i64 0, .slice none 0 0] 40) = V3 at *
          have EX := EX3
          clear EX3
          generalize V2.heap.size = g at *
          (try simp only [Act.put, List.getElem_toArray, List.getElem_cons_succ, List.getElem_cons_zero, List.setIfInBounds_toArray, List.set_cons_zero, List.set_cons_succ])
          refine wpAnyH_ready (rs := [9]) (by kernel_rfl) (by simp) ?_
          refine AllReadyH.cons rfl (fun K hK => ?_) AllReadyH.nil
          · go_simp
            go_at_call 61
            refine (FC.out _ (E0.trans EX)).mono ?_
            rintro e V4 ⟨v3, rfl, o3, q⟩
            obtain ⟨a3, n3, c3, rfl, _, _⟩ := o3.read
            have hob : ∀ j, (Value.slice a3 n3 c3).ownBlock = some j → j ≠ g := fun j hj => by
              have h1 := o3.lt j hj
              have h2 := KG.lt
              omega
            replace KG := KG.ext q
            replace o3 := o3.mono EX.size
            replace EX := EX.trans q
            refine hK.out _ _ trivial ?_
            clear hK K q
            intro hS
            (try simp only [Act.put, List.getElem_toArray, List.getElem_cons_succ, List.getElem_cons_zero, List.setIfInBounds_toArray, List.set_cons_zero, List.set_cons_succ])
            (refine wpAnyH_take (i := 10) (v := ?_) rfl (by kernel_rfl) (by kernel_rfl) (by kernel_rfl) (fun _ _ _ h => h) (Or.inl ⟨by rfl, ?_⟩) (by assumption) ?_; rotate_left; focus (intro w hSw; (try dsimp only at hSw); go_simp; try with_reducible rfl); try simp only [Act.put, List.getElem_toArray, List.getElem_cons_succ, List.getElem_cons_zero, List.setIfInBounds_toArray, List.set_cons_zero, List.set_cons_succ])
            (refine wpAnyH_ready (rs := [12]) (by kernel_rfl) (by simp) ?_; refine AllReadyH.cons rfl (fun K hK => ?_) AllReadyH.nil)
            rw [if_pos (by rfl)]
            refine wp_store_by _ _ _ rfl _ rfl (sto KG ⟨6, Pl.at2 xs 0, Pl.at2 (xs.drop 2) 0, 0, 0, 0, 0⟩ a3 n3 c3) rfl ?_
            refine hK.out _ _ trivial ?_
            clear hK K
            intro hS
            (try simp only [Act.put, List.getElem_toArray, List.getElem_cons_succ, List.getElem_cons_zero, List.setIfInBounds_toArray, List.set_cons_zero, List.set_cons_succ])
            refine wpAnyH_done (by kernel_rfl) ?_ _
            have K8 := KG.row ((⟨6, Pl.at2 xs 0, Pl.at2 (xs.drop 2) 0, 0, 0, 0, 0⟩ : Sg).cells (.slice a3 n3 c3))
            have o8 := o3.rowOff hob ((⟨6, Pl.at2 xs 0, Pl.at2 (xs.drop 2) 0, 0, 0, 0, 0⟩ : Sg).cells (.slice a3 n3 c3))
            have E8 := EX.row hgl ((⟨6, Pl.at2 xs 0, Pl.at2 (xs.drop 2) 0, 0, 0, 0, 0⟩ : Sg).cells (.slice a3 n3 c3))
            go_wp2_with fail
            go_meet
            exact ⟨_, _, rfl, hgl, o8, hob, K8, E8⟩
      · go_simp
        have KG := Blk.new V1 40 #[.int .i64 0, .int .i64 0, .int .i64 0, .int .i64 0, .int .i64 0, .int .i64 0, .int .i64 0, .slice none 0 0]
        have EX2 := EX.alloc (.cells #[.int .i64 0, .int .i64 0, .int .i64 0, .int .i64 0, .int .i64 0, .int .i64 0, .int .i64 0, .slice none 0 0] 40)
        have hgl : W0.heap.size ≤ V1.heap.size := EX.size
        refine hK.out _ _ trivial ?_
        clear hK K
        intro hS
        clear EX
        generalize V1.alloc (.cells #[.int .i64 0, .int .i64 0, .int .i64 0, .int .i64 0, .int .i64 0, .int .i64 0, .int .i64 0, .slice none 0 0] 40) = V2 at *
        have EX := EX2
        clear EX2
        generalize V1.heap.size = g at *
        (try simp only [Act.put, List.getElem_toArray, List.getElem_cons_succ, List.getElem_cons_zero, List.setIfInBounds_toArray, List.set_cons_zero, List.set_cons_succ])
        refine wpAnyH_ready (rs := [5]) (by kernel_rfl) (by simp) ?_
        refine AllReadyH.cons rfl (fun K hK => ?_) AllReadyH.nil
        · go_simp
          go_at_call 80
          refine (F2.out _ (E0.trans EX)).mono ?_
          rintro e V3 ⟨rfl, q⟩
          replace EX := EX.trans q
          replace KG := KG.ext q
          refine hK.out _ _ trivial ?_
          clear hK K q
          intro hS
          (try simp only [Act.put, List.getElem_toArray, List.getElem_cons_succ, List.getElem_cons_zero, List.setIfInBounds_toArray, List.set_cons_zero, List.set_cons_succ])
          refine wpAnyH_ready (rs := [9]) (by kernel_rfl) (by simp) ?_
          refine AllReadyH.cons rfl (fun K hK => ?_) AllReadyH.nil
          · go_simp
            go_at_call 61
            refine (FC.out _ (E0.trans EX)).mono ?_
            rintro e V4 ⟨v3, rfl, o3, q⟩
            obtain ⟨a3, n3, c3, rfl, _, _⟩ := o3.read
            have hob : ∀ j, (Value.slice a3 n3 c3).ownBlock = some j → j ≠ g := fun j hj => by
              have h1 := o3.lt j hj
              have h2 := KG.lt
              omega
            replace KG := KG.ext q
            replace o3 := o3.mono EX.size
            replace EX := EX.trans q
            refine hK.out _ _ trivial ?_
            clear hK K q
            intro hS
            (try simp only [Act.put, List.getElem_toArray, List.getElem_cons_succ, List.getElem_cons_zero, List.setIfInBounds_toArray, List.set_cons_zero, List.set_cons_succ])
            (refine wpAnyH_take (i := 10) (v := ?_) rfl (by kernel_rfl) (by kernel_rfl) (by kernel_rfl) (fun _ _ _ h => h) (Or.inl ⟨by rfl, ?_⟩) (by assumption) ?_; rotate_left; focus (intro w hSw; (try dsimp only at hSw); go_simp; try with_reducible rfl); try simp only [Act.put, List.getElem_toArray, List.getElem_cons_succ, List.getElem_cons_zero, List.setIfInBounds_toArray, List.set_cons_zero, List.set_cons_succ])
            (refine wpAnyH_ready (rs := [12]) (by kernel_rfl) (by simp) ?_; refine AllReadyH.cons rfl (fun K hK => ?_) AllReadyH.nil)
            rw [if_pos (by rfl)]
            refine wp_store_by _ _ _ rfl _ rfl (sto KG ⟨6, Pl.at2 xs 0, Pl.at2 (xs.drop 2) 0, 0, 0, 0, 0⟩ a3 n3 c3) rfl ?_
            refine hK.out _ _ trivial ?_
            clear hK K
            intro hS
            (try simp only [Act.put, List.getElem_toArray, List.getElem_cons_succ, List.getElem_cons_zero, List.setIfInBounds_toArray, List.set_cons_zero, List.set_cons_succ])
            refine wpAnyH_done (by kernel_rfl) ?_ _
            have K8 := KG.row ((⟨6, Pl.at2 xs 0, Pl.at2 (xs.drop 2) 0, 0, 0, 0, 0⟩ : Sg).cells (.slice a3 n3 c3))
            have o8 := o3.rowOff hob ((⟨6, Pl.at2 xs 0, Pl.at2 (xs.drop 2) 0, 0, 0, 0, 0⟩ : Sg).cells (.slice a3 n3 c3))
            have E8 := EX.row hgl ((⟨6, Pl.at2 xs 0, Pl.at2 (xs.drop 2) 0, 0, 0, 0, 0⟩ : Sg).cells (.slice a3 n3 c3))
            go_wp2_with fail
            go_meet
            exact ⟨_, _, rfl, hgl, o8, hob, K8, E8⟩
    · go_simp
      have KG := Blk.new V0 40 #[.int .i64 0, .int .i64 0, .int .i64 0, .int .i64 0, .int .i64 0, .int .i64 0, .int .i64 0, .slice none 0 0]
      have EX1 := EX.alloc (.cells #[.int .i64 0, .int .i64 0, .int .i64 0, .int .i64 0, .int .i64 0, .int .i64 0, .int .i64 0, .slice none 0 0] 40)
      have hgl : W0.heap.size ≤ V0.heap.size := EX.size
      refine hK.out _ _ trivial ?_
      clear hK K
      intro hS
      clear EX
      generalize V0.alloc (.cells #[.int .i64 0, .int .i64 0, .int .i64 0, .int .i64 0, .int .i64 0, .int .i64 0, .int .i64 0, .slice none 0 0] 40) = V1 at *
      have EX := EX1
      clear EX1
      generalize V0.heap.size = g at *
      (try simp only [Act.put, List.getElem_toArray, List.getElem_cons_succ, List.getElem_cons_zero, List.setIfInBounds_toArray, List.set_cons_zero, List.set_cons_succ])
      refine wpAnyH_ready (rs := [2]) (by kernel_rfl) (by simp) ?_
      refine AllReadyH.cons rfl (fun K hK => ?_) AllReadyH.nil
      · go_simp
        go_at_call 80
        refine (F0.out _ (E0.trans EX)).mono ?_
        rintro e V2 ⟨rfl, q⟩
        replace EX := EX.trans q
        replace KG := KG.ext q
        refine hK.out _ _ trivial ?_
        clear hK K q
        intro hS
        (try simp only [Act.put, List.getElem_toArray, List.getElem_cons_succ, List.getElem_cons_zero, List.setIfInBounds_toArray, List.set_cons_zero, List.set_cons_succ])
        refine wpAnyH_ready (rs := [5]) (by kernel_rfl) (by simp) ?_
        refine AllReadyH.cons rfl (fun K hK => ?_) AllReadyH.nil
        · go_simp
          go_at_call 80
          refine (F2.out _ (E0.trans EX)).mono ?_
          rintro e V3 ⟨rfl, q⟩
          replace EX := EX.trans q
          replace KG := KG.ext q
          refine hK.out _ _ trivial ?_
          clear hK K q
          intro hS
          (try simp only [Act.put, List.getElem_toArray, List.getElem_cons_succ, List.getElem_cons_zero, List.setIfInBounds_toArray, List.set_cons_zero, List.set_cons_succ])
          refine wpAnyH_ready (rs := [9]) (by kernel_rfl) (by simp) ?_
          refine AllReadyH.cons rfl (fun K hK => ?_) AllReadyH.nil
          · go_simp
            go_at_call 61
            refine (FC.out _ (E0.trans EX)).mono ?_
            rintro e V4 ⟨v3, rfl, o3, q⟩
            obtain ⟨a3, n3, c3, rfl, _, _⟩ := o3.read
            have hob : ∀ j, (Value.slice a3 n3 c3).ownBlock = some j → j ≠ g := fun j hj => by
              have h1 := o3.lt j hj
              have h2 := KG.lt
              omega
            replace KG := KG.ext q
            replace o3 := o3.mono EX.size
            replace EX := EX.trans q
            refine hK.out _ _ trivial ?_
            clear hK K q
            intro hS
            (try simp only [Act.put, List.getElem_toArray, List.getElem_cons_succ, List.getElem_cons_zero, List.setIfInBounds_toArray, List.set_cons_zero, List.set_cons_succ])
            (refine wpAnyH_take (i := 10) (v := ?_) rfl (by kernel_rfl) (by kernel_rfl) (by kernel_rfl) (fun _ _ _ h => h) (Or.inl ⟨by rfl, ?_⟩) (by assumption) ?_; rotate_left; focus (intro w hSw; (try dsimp only at hSw); go_simp; try with_reducible rfl); try simp only [Act.put, List.getElem_toArray, List.getElem_cons_succ, List.getElem_cons_zero, List.setIfInBounds_toArray, List.set_cons_zero, List.set_cons_succ])
            (refine wpAnyH_ready (rs := [12]) (by kernel_rfl) (by simp) ?_; refine AllReadyH.cons rfl (fun K hK => ?_) AllReadyH.nil)
            rw [if_pos (by rfl)]
            refine wp_store_by _ _ _ rfl _ rfl (sto KG ⟨6, Pl.at2 xs 0, Pl.at2 (xs.drop 2) 0, 0, 0, 0, 0⟩ a3 n3 c3) rfl ?_
            refine hK.out _ _ trivial ?_
            clear hK K
            intro hS
            (try simp only [Act.put, List.getElem_toArray, List.getElem_cons_succ, List.getElem_cons_zero, List.setIfInBounds_toArray, List.set_cons_zero, List.set_cons_succ])
            refine wpAnyH_done (by kernel_rfl) ?_ _
            have K8 := KG.row ((⟨6, Pl.at2 xs 0, Pl.at2 (xs.drop 2) 0, 0, 0, 0, 0⟩ : Sg).cells (.slice a3 n3 c3))
            have o8 := o3.rowOff hob ((⟨6, Pl.at2 xs 0, Pl.at2 (xs.drop 2) 0, 0, 0, 0, 0⟩ : Sg).cells (.slice a3 n3 c3))
            have E8 := EX.row hgl ((⟨6, Pl.at2 xs 0, Pl.at2 (xs.drop 2) 0, 0, 0, 0, 0⟩ : Sg).cells (.slice a3 n3 c3))
            go_wp2_with fail
            go_meet
            exact ⟨_, _, rfl, hgl, o8, hob, K8, E8⟩
  obtain ⟨g, v, rfl, hgl, ov, hvg, KG, EG⟩ := hcut
  have EW := E0.trans EG
  go_upto_region 8 with (fail)
  go_cut [] (fun wx => Ext W0 wx ∧ Blk wx g 40 ((⟨6, Pl.at2 xs 0, Pl.at2 (xs.drop 2) 0, Pl.at2 (xs.drop 4) 0 * 65536 + Pl.at2 (xs.drop 6) 0, Pl.at2 (xs.drop 8) 0 * 65536 + Pl.at2 (xs.drop 10) 0, 0, 0⟩ : Sg).cells v) ∧ Own wx W0.heap.size v (xs.drop 20))
  case first =>
    have EX := EW.drew
    have EZ := EG.drew
    have KX : Blk wc.drew g _ _ := KG.drew
    have OX : Own wc.drew W0.heap.size v (xs.drop 20) := ov.ext (Ext.refl wc).drew
    have y4 := Pl.at2_rng (HB.out.drop 4) 0
    have y6 := Pl.at2_rng (HB.out.drop 6) 0
    have y8 := Pl.at2_rng (HB.out.drop 8) 0
    have y10 := Pl.at2_rng (HB.out.drop 10) 0
    generalize Pl.at2 xs 0 = Y0 at *
    generalize Pl.at2 (xs.drop 2) 0 = Y2 at *
    generalize Pl.at2 (xs.drop 4) 0 = Y4 at *
    generalize Pl.at2 (xs.drop 6) 0 = Y6 at *
    generalize Pl.at2 (xs.drop 8) 0 = Y8 at *
    generalize Pl.at2 (xs.drop 10) 0 = Y10 at *
    have m4 : IntKind.i64.wrap (Y4 * 65536) = Y4 * 65536 := IntWalk.i64_in _ (by omega)
    have m8 : IntKind.i64.wrap (Y8 * 65536) = Y8 * 65536 := IntWalk.i64_in _ (by omega)
    have e46 : bits .or .i64 (Y4 * 65536) Y6 = Y4 * 65536 + Y6 := or16 (by omega) (by omega) (by omega) (by omega) (by omega)
    have e810 : bits .or .i64 (Y8 * 65536) Y10 = Y8 * 65536 + Y10 := or16 (by omega) (by omega) (by omega) (by omega) (by omega)
    refine wp_region_held_drew (S := (fun _ => True)) (by kernel_rfl) trivial (fun hS0 => ?_)
    generalize wc.drew = V0 at *
    (refine wpAnyH_take (i := 0) (v := ?_) rfl (by kernel_rfl) (by kernel_rfl) (by kernel_rfl) (fun _ _ _ h => h) (Or.inl ⟨by rfl, ?_⟩) (by assumption) ?_; rotate_left; focus (intro w hSw; (try dsimp only at hSw); go_simp; try with_reducible rfl); try simp only [Act.put, List.getElem_toArray, List.getElem_cons_succ, List.getElem_cons_zero, List.setIfInBounds_toArray, List.set_cons_zero, List.set_cons_succ])
    (refine wpAnyH_take (i := 1) (v := ?_) rfl (by kernel_rfl) (by kernel_rfl) (by kernel_rfl) (fun _ _ _ h => h) (Or.inl ⟨by rfl, ?_⟩) (by assumption) ?_; rotate_left; focus (intro w hSw; (try dsimp only at hSw); go_simp; try with_reducible rfl); try simp only [Act.put, List.getElem_toArray, List.getElem_cons_succ, List.getElem_cons_zero, List.setIfInBounds_toArray, List.set_cons_zero, List.set_cons_succ])
    (refine wpAnyH_take (i := 4) (v := ?_) rfl (by kernel_rfl) (by kernel_rfl) (by kernel_rfl) (fun _ _ _ h => h) (Or.inl ⟨by rfl, ?_⟩) (by assumption) ?_; rotate_left; focus (intro w hSw; (try dsimp only at hSw); go_simp; try with_reducible rfl); try simp only [Act.put, List.getElem_toArray, List.getElem_cons_succ, List.getElem_cons_zero, List.setIfInBounds_toArray, List.set_cons_zero, List.set_cons_succ])
    (refine wpAnyH_take (i := 5) (v := ?_) rfl (by kernel_rfl) (by kernel_rfl) (by kernel_rfl) (fun _ _ _ h => h) (Or.inl ⟨by rfl, ?_⟩) (by assumption) ?_; rotate_left; focus (intro w hSw; (try dsimp only at hSw); go_simp; try with_reducible rfl); try simp only [Act.put, List.getElem_toArray, List.getElem_cons_succ, List.getElem_cons_zero, List.setIfInBounds_toArray, List.set_cons_zero, List.set_cons_succ])
    (refine wpAnyH_take (i := 8) (v := ?_) rfl (by kernel_rfl) (by kernel_rfl) (by kernel_rfl) (fun _ _ _ h => h) (Or.inl ⟨by rfl, ?_⟩) (by assumption) ?_; rotate_left; focus (intro w hSw; (try dsimp only at hSw); go_simp; try with_reducible rfl); try simp only [Act.put, List.getElem_toArray, List.getElem_cons_succ, List.getElem_cons_zero, List.setIfInBounds_toArray, List.set_cons_zero, List.set_cons_succ])
    (refine wpAnyH_take (i := 9) (v := ?_) rfl (by kernel_rfl) (by kernel_rfl) (by kernel_rfl) (fun _ _ _ h => h) (Or.inl ⟨by rfl, ?_⟩) (by assumption) ?_; rotate_left; focus (intro w hSw; (try dsimp only at hSw); go_simp; try with_reducible rfl); try simp only [Act.put, List.getElem_toArray, List.getElem_cons_succ, List.getElem_cons_zero, List.setIfInBounds_toArray, List.set_cons_zero, List.set_cons_succ])
    (refine wpAnyH_take (i := 12) (v := ?_) rfl (by kernel_rfl) (by kernel_rfl) (by kernel_rfl) (fun _ _ _ h => h) (Or.inl ⟨by rfl, ?_⟩) (by assumption) ?_; rotate_left; focus (intro w hSw; (try dsimp only at hSw); go_simp; try with_reducible rfl); try simp only [Act.put, List.getElem_toArray, List.getElem_cons_succ, List.getElem_cons_zero, List.setIfInBounds_toArray, List.set_cons_zero, List.set_cons_succ])
    (refine wpAnyH_take (i := 13) (v := ?_) rfl (by kernel_rfl) (by kernel_rfl) (by kernel_rfl) (fun _ _ _ h => h) (Or.inl ⟨by rfl, ?_⟩) (by assumption) ?_; rotate_left; focus (intro w hSw; (try dsimp only at hSw); go_simp; try with_reducible rfl); try simp only [Act.put, List.getElem_toArray, List.getElem_cons_succ, List.getElem_cons_zero, List.setIfInBounds_toArray, List.set_cons_zero, List.set_cons_succ])
    (refine wpAnyH_ready (rs := [2]) (by kernel_rfl) (by simp) ?_; refine AllReadyH.cons rfl (fun K hK => ?_) AllReadyH.nil)
    go_simp
    go_at_call 80
    refine (F4.out _ EX).mono ?_
    rintro e V1 ⟨rfl, q⟩
    replace EX := EX.trans q
    replace EZ := EZ.trans q
    replace KX := KX.ext q
    replace OX := OX.ext q
    refine hK.out _ _ trivial ?_
    clear hK K q
    intro hS
    (try simp only [Act.put, List.getElem_toArray, List.getElem_cons_succ, List.getElem_cons_zero, List.setIfInBounds_toArray, List.set_cons_zero, List.set_cons_succ])
    (refine wpAnyH_take (i := 3) (v := ?_) rfl (by kernel_rfl) (by kernel_rfl) (by kernel_rfl) (fun _ _ _ h => h) (Or.inl ⟨by rfl, ?_⟩) (by assumption) ?_; rotate_left; focus (intro w hSw; (try dsimp only at hSw); go_simp; try with_reducible rfl); try simp only [Act.put, List.getElem_toArray, List.getElem_cons_succ, List.getElem_cons_zero, List.setIfInBounds_toArray, List.set_cons_zero, List.set_cons_succ])
    (refine wpAnyH_ready (rs := [6]) (by kernel_rfl) (by simp) ?_; refine AllReadyH.cons rfl (fun K hK => ?_) AllReadyH.nil)
    go_simp
    go_at_call 80
    refine (F6.out _ EX).mono ?_
    rintro e V1 ⟨rfl, q⟩
    replace EX := EX.trans q
    replace EZ := EZ.trans q
    replace KX := KX.ext q
    replace OX := OX.ext q
    refine hK.out _ _ trivial ?_
    clear hK K q
    intro hS
    (try simp only [Act.put, List.getElem_toArray, List.getElem_cons_succ, List.getElem_cons_zero, List.setIfInBounds_toArray, List.set_cons_zero, List.set_cons_succ])
    (refine wpAnyH_take (i := 7) (v := ?_) rfl (by kernel_rfl) (by kernel_rfl) (by kernel_rfl) (fun _ _ _ h => h) (Or.inl ⟨by rfl, ?_⟩) (by assumption) ?_; rotate_left; focus (intro w hSw; (try dsimp only at hSw); go_simp; try with_reducible rfl); try simp only [Act.put, List.getElem_toArray, List.getElem_cons_succ, List.getElem_cons_zero, List.setIfInBounds_toArray, List.set_cons_zero, List.set_cons_succ])
    (refine wpAnyH_take (i := 16) (v := ?_) rfl (by kernel_rfl) (by kernel_rfl) (by kernel_rfl) (fun _ _ _ h => h) (Or.inl ⟨by rfl, ?_⟩) (by assumption) ?_; rotate_left; focus (intro w hSw; (try dsimp only at hSw); go_simp; try with_reducible rfl); try simp only [Act.put, List.getElem_toArray, List.getElem_cons_succ, List.getElem_cons_zero, List.setIfInBounds_toArray, List.set_cons_zero, List.set_cons_succ])
    (refine wpAnyH_ready (rs := [10]) (by kernel_rfl) (by simp) ?_; refine AllReadyH.cons rfl (fun K hK => ?_) AllReadyH.nil)
    go_simp
    go_at_call 80
    refine (F8.out _ EX).mono ?_
    rintro e V1 ⟨rfl, q⟩
    replace EX := EX.trans q
    replace EZ := EZ.trans q
    replace KX := KX.ext q
    replace OX := OX.ext q
    refine hK.out _ _ trivial ?_
    clear hK K q
    intro hS
    (try simp only [Act.put, List.getElem_toArray, List.getElem_cons_succ, List.getElem_cons_zero, List.setIfInBounds_toArray, List.set_cons_zero, List.set_cons_succ])
    (refine wpAnyH_take (i := 11) (v := ?_) rfl (by kernel_rfl) (by kernel_rfl) (by kernel_rfl) (fun _ _ _ h => h) (Or.inl ⟨by rfl, ?_⟩) (by assumption) ?_; rotate_left; focus (intro w hSw; (try dsimp only at hSw); go_simp; try with_reducible rfl); try simp only [Act.put, List.getElem_toArray, List.getElem_cons_succ, List.getElem_cons_zero, List.setIfInBounds_toArray, List.set_cons_zero, List.set_cons_succ])
    (refine wpAnyH_ready (rs := [14]) (by kernel_rfl) (by simp) ?_; refine AllReadyH.cons rfl (fun K hK => ?_) AllReadyH.nil)
    go_simp
    go_at_call 80
    refine (F10.out _ EX).mono ?_
    rintro e V1 ⟨rfl, q⟩
    replace EX := EX.trans q
    replace EZ := EZ.trans q
    replace KX := KX.ext q
    replace OX := OX.ext q
    refine hK.out _ _ trivial ?_
    clear hK K q
    intro hS
    (try simp only [Act.put, List.getElem_toArray, List.getElem_cons_succ, List.getElem_cons_zero, List.setIfInBounds_toArray, List.set_cons_zero, List.set_cons_succ])
    (refine wpAnyH_take (i := 15) (v := ?_) rfl (by kernel_rfl) (by kernel_rfl) (by kernel_rfl) (fun _ _ _ h => h) (Or.inl ⟨by rfl, ?_⟩) (by assumption) ?_; rotate_left; focus (intro w hSw; (try dsimp only at hSw); go_simp; try with_reducible rfl); try simp only [Act.put, List.getElem_toArray, List.getElem_cons_succ, List.getElem_cons_zero, List.setIfInBounds_toArray, List.set_cons_zero, List.set_cons_succ])
    (refine wpAnyH_ready (rs := [17]) (by kernel_rfl) (by simp) ?_; refine AllReadyH.cons rfl (fun K hK => ?_) AllReadyH.nil)
    rw [if_pos (by rfl)]
    refine wp_store_by _ _ _ rfl _ rfl (KX.sti 3 (Y4 * 65536 + Y6) (by simp [Sg.cells])) rfl ?_
    replace OX := OX.setFar (p := ⟨g, 3, none⟩) hvg (.int .i64 (Y4 * 65536 + Y6))
    replace EZ := EZ.set (p := ⟨g, 3, none⟩) hgl (.int .i64 (Y4 * 65536 + Y6))
    replace KX : Blk _ g 40 ((⟨6, Y0, Y2, Y4 * 65536 + Y6, 0, 0, 0⟩ : Sg).cells v) := KX.put 3 (.int .i64 (Y4 * 65536 + Y6))
    refine hK.out _ _ trivial ?_
    clear hK K
    intro hS
    clear EX
    generalize World.setCell _ ⟨g, 3, none⟩ _ = V2 at *
    (try simp only [Act.put, List.getElem_toArray, List.getElem_cons_succ, List.getElem_cons_zero, List.setIfInBounds_toArray, List.set_cons_zero, List.set_cons_succ])
    (refine wpAnyH_take (i := 18) (v := ?_) rfl (by kernel_rfl) (by kernel_rfl) (by kernel_rfl) (fun _ _ _ h => h) (Or.inl ⟨by rfl, ?_⟩) (by assumption) ?_; rotate_left; focus (intro w hSw; (try dsimp only at hSw); go_simp; try with_reducible rfl); try simp only [Act.put, List.getElem_toArray, List.getElem_cons_succ, List.getElem_cons_zero, List.setIfInBounds_toArray, List.set_cons_zero, List.set_cons_succ])
    (refine wpAnyH_ready (rs := [19]) (by kernel_rfl) (by simp) ?_; refine AllReadyH.cons rfl (fun K hK => ?_) AllReadyH.nil)
    rw [if_pos (by rfl)]
    refine wp_store_by _ _ _ rfl _ rfl (KX.sti 4 (Y8 * 65536 + Y10) (by simp [Sg.cells])) rfl ?_
    replace OX := OX.setFar (p := ⟨g, 4, none⟩) hvg (.int .i64 (Y8 * 65536 + Y10))
    replace EZ := EZ.set (p := ⟨g, 4, none⟩) hgl (.int .i64 (Y8 * 65536 + Y10))
    replace KX : Blk _ g 40 ((⟨6, Y0, Y2, Y4 * 65536 + Y6, Y8 * 65536 + Y10, 0, 0⟩ : Sg).cells v) := KX.put 4 (.int .i64 (Y8 * 65536 + Y10))
    refine hK.out _ _ trivial ?_
    clear hK K
    intro hS
    (try simp only [Act.put, List.getElem_toArray, List.getElem_cons_succ, List.getElem_cons_zero, List.setIfInBounds_toArray, List.set_cons_zero, List.set_cons_succ])
    refine wpAnyH_done (by kernel_rfl) ?_ _
    go_wp2_with fail
    go_meet
    exact ⟨EZ, KX, OX⟩
  obtain ⟨EG2, KG2, ov2⟩ := hcut
  clear KG ov EG EW
  have EW := E0.trans EG2
  go_upto_region 9 with (fail)
  go_cut [] (fun wy => Ext W0 wy ∧ Blk wy g 40 ((⟨6, Pl.at2 xs 0, Pl.at2 (xs.drop 2) 0, Pl.at2 (xs.drop 4) 0 * 65536 + Pl.at2 (xs.drop 6) 0, Pl.at2 (xs.drop 8) 0 * 65536 + Pl.at2 (xs.drop 10) 0, xs.getD 13 0 % 32, Pl.at2 (xs.drop 14) 0⟩ : Sg).cells v) ∧ Own wy W0.heap.size v (xs.drop 20))
  case first =>
    have EX := EW.drew
    have EZ := EG2.drew
    have KX : Blk wc.drew g _ _ := KG2.drew
    have OX : Own wc.drew W0.heap.size v (xs.drop 20) := ov2.ext (Ext.refl wc).drew
    have y13 := HB.out.getD 13
    have hcl := HCELL.out 13 (by omega)
    have hgb : g ≠ b := by have := E0.size; omega
    generalize Pl.at2 xs 0 = Y0 at *
    generalize Pl.at2 (xs.drop 2) 0 = Y2 at *
    generalize Pl.at2 (xs.drop 4) 0 * 65536 + Pl.at2 (xs.drop 6) 0 = Y4 at *
    generalize Pl.at2 (xs.drop 8) 0 * 65536 + Pl.at2 (xs.drop 10) 0 = Y8 at *
    generalize Pl.at2 (xs.drop 14) 0 = Y14 at *
    generalize xs.getD 13 0 = X13 at *
    have HC13 := Lib.hid (fun (W : World) (q : Ext w W) => (World.cell?_of_block (a := ⟨b, off + 13, none⟩) (Below.block q b hbl)).trans hcl)
    have a31 : bits .and .u8 X13 31 = X13 % 32 := bits_mask .u8 8 (by decide) (fun n h0 h1 => IntWalk.u8_in _ (by omega)) 5 (by decide) X13 y13.1 (by omega)
    have m31 : IntKind.i64.wrap (X13 % 32) = X13 % 32 := IntWalk.i64_in _ (by omega)
    have l13 : (13 : Int) < (n : Int) := by omega
    have hS0' := HC13.out _ EX
    clear hcl
    refine wp_region_held_drew (S := (fun w' => w'.cell? ⟨b, off + 13, none⟩ = some (.int .u8 X13))) (by kernel_rfl) hS0' (fun hS0 => ?_)
    generalize wc.drew = V0 at *
    (refine wpAnyH_take (i := 0) (v := ?_) rfl (by kernel_rfl) (by kernel_rfl) (by kernel_rfl) (fun _ _ _ h => h) (Or.inl ⟨by rfl, ?_⟩) (by assumption) ?_; rotate_left; focus (intro w hSw; (try dsimp only at hSw); go_simp; try with_reducible rfl); try simp only [Act.put, List.getElem_toArray, List.getElem_cons_succ, List.getElem_cons_zero, List.setIfInBounds_toArray, List.set_cons_zero, List.set_cons_succ])
    (refine wpAnyH_take (i := 1) (v := ?_) rfl (by kernel_rfl) (by kernel_rfl) (by kernel_rfl) (fun _ _ _ h => h) (Or.inl ⟨by rfl, ?_⟩) (by assumption) ?_; rotate_left; focus (intro w hSw; (try dsimp only at hSw); go_simp; try with_reducible rfl); try simp only [Act.put, List.getElem_toArray, List.getElem_cons_succ, List.getElem_cons_zero, List.setIfInBounds_toArray, List.set_cons_zero, List.set_cons_succ])
    (refine wpAnyH_take (i := 5) (v := ?_) rfl (by kernel_rfl) (by kernel_rfl) (by kernel_rfl) (fun _ _ _ h => h) (Or.inl ⟨by rfl, ?_⟩) (by assumption) ?_; rotate_left; focus (intro w hSw; (try dsimp only at hSw); go_simp; try with_reducible rfl); try simp only [Act.put, List.getElem_toArray, List.getElem_cons_succ, List.getElem_cons_zero, List.setIfInBounds_toArray, List.set_cons_zero, List.set_cons_succ])
    (refine wpAnyH_take (i := 6) (v := ?_) rfl (by kernel_rfl) (by kernel_rfl) (by kernel_rfl) (fun _ _ _ h => h) (Or.inl ⟨by rfl, ?_⟩) (by assumption) ?_; rotate_left; focus (intro w hSw; (try dsimp only at hSw); go_simp; try with_reducible rfl); try simp only [Act.put, List.getElem_toArray, List.getElem_cons_succ, List.getElem_cons_zero, List.setIfInBounds_toArray, List.set_cons_zero, List.set_cons_succ])
    (refine wpAnyH_take (i := 2) (v := ?_) rfl (by kernel_rfl) (by kernel_rfl) (by kernel_rfl) (fun _ _ _ h => h) (Or.inl ⟨by rfl, ?_⟩) (by assumption) ?_; rotate_left; focus (intro w hSw; (try dsimp only at hSw); go_simp; try with_reducible rfl); try simp only [Act.put, List.getElem_toArray, List.getElem_cons_succ, List.getElem_cons_zero, List.setIfInBounds_toArray, List.set_cons_zero, List.set_cons_succ])
    (refine wpAnyH_take (i := 3) (v := ?_) rfl (by kernel_rfl) (by kernel_rfl) (by kernel_rfl) (fun _ _ _ h => h) (Or.inl ⟨by rfl, ?_⟩) (by assumption) ?_; rotate_left; focus (intro w hSw; (try dsimp only at hSw); go_simp; try with_reducible rfl); try simp only [Act.put, List.getElem_toArray, List.getElem_cons_succ, List.getElem_cons_zero, List.setIfInBounds_toArray, List.set_cons_zero, List.set_cons_succ])
    (refine wpAnyH_take (i := 4) (v := ?_) rfl (by kernel_rfl) (by kernel_rfl) (by kernel_rfl) (fun _ _ _ h => h) (Or.inl ⟨by rfl, ?_⟩) (by assumption) ?_; rotate_left; focus (intro w hSw; (try dsimp only at hSw); go_simp; try with_reducible rfl); try simp only [Act.put, List.getElem_toArray, List.getElem_cons_succ, List.getElem_cons_zero, List.setIfInBounds_toArray, List.set_cons_zero, List.set_cons_succ])
    (refine wpAnyH_take (i := 8) (v := ?_) rfl (by kernel_rfl) (by kernel_rfl) (by kernel_rfl) (fun _ _ _ h => h) (Or.inl ⟨by rfl, ?_⟩) (by assumption) ?_; rotate_left; focus (intro w hSw; (try dsimp only at hSw); go_simp; try with_reducible rfl); try simp only [Act.put, List.getElem_toArray, List.getElem_cons_succ, List.getElem_cons_zero, List.setIfInBounds_toArray, List.set_cons_zero, List.set_cons_succ])
    (refine wpAnyH_ready (rs := [7]) (by kernel_rfl) (by simp) ?_; refine AllReadyH.cons rfl (fun K hK => ?_) AllReadyH.nil)
    go_simp
    go_at_call 80
    refine (F14.out _ EX).mono ?_
    rintro e V1 ⟨rfl, q⟩
    replace EX := EX.trans q
    replace EZ := EZ.trans q
    replace KX := KX.ext q
    replace OX := OX.ext q
    refine hK.out _ _ (HC13.out _ EX) ?_
    clear hK K q
    intro hS
    (try simp only [Act.put, List.getElem_toArray, List.getElem_cons_succ, List.getElem_cons_zero, List.setIfInBounds_toArray, List.set_cons_zero, List.set_cons_succ])
    (refine wpAnyH_ready (rs := [9]) (by kernel_rfl) (by simp) ?_; refine AllReadyH.cons rfl (fun K hK => ?_) AllReadyH.nil)
    rw [if_pos (by rfl)]
    refine wp_store_by _ _ _ rfl _ rfl (KX.sti 5 (X13 % 32) (by simp [Sg.cells])) rfl ?_
    replace OX := OX.setFar (p := ⟨g, 5, none⟩) hvg (.int .i64 (X13 % 32))
    replace EZ := EZ.set (p := ⟨g, 5, none⟩) hgl (.int .i64 (X13 % 32))
    replace EX := EX.set (p := ⟨g, 5, none⟩) (by have := E0.size; show w.heap.size ≤ g; omega) (.int .i64 (X13 % 32))
    replace KX : Blk _ g 40 ((⟨6, Y0, Y2, Y4, Y8, X13 % 32, 0⟩ : Sg).cells v) := KX.put 5 (.int .i64 (X13 % 32))
    refine hK.out _ _ (HC13.out _ EX) ?_
    clear hK K
    intro hS
    generalize World.setCell _ ⟨g, 5, none⟩ _ = V2 at *
    (try simp only [Act.put, List.getElem_toArray, List.getElem_cons_succ, List.getElem_cons_zero])
    (refine wpAnyH_take (i := 10) (v := ?_) rfl (by kernel_rfl) (by kernel_rfl) (by kernel_rfl) (fun _ _ _ h => h) (Or.inl ⟨by rfl, ?_⟩) (by assumption) ?_; rotate_left; focus (intro w hSw; (try dsimp only at hSw); go_simp; try with_reducible rfl); try simp only [Act.put, List.getElem_toArray, List.getElem_cons_succ, List.getElem_cons_zero, List.setIfInBounds_toArray, List.set_cons_zero, List.set_cons_succ])
    (refine wpAnyH_ready (rs := [11]) (by kernel_rfl) (by simp) ?_; refine AllReadyH.cons rfl (fun K hK => ?_) AllReadyH.nil)
    rw [if_pos (by rfl)]
    refine wp_store_by _ _ _ rfl _ rfl (KX.sti 6 Y14 (by simp [Sg.cells])) rfl ?_
    replace OX := OX.setFar (p := ⟨g, 6, none⟩) hvg (.int .i64 Y14)
    replace EZ := EZ.set (p := ⟨g, 6, none⟩) hgl (.int .i64 Y14)
    replace EX := EX.set (p := ⟨g, 6, none⟩) (by have := E0.size; show w.heap.size ≤ g; omega) (.int .i64 Y14)
    replace KX : Blk _ g 40 ((⟨6, Y0, Y2, Y4, Y8, X13 % 32, Y14⟩ : Sg).cells v) := KX.put 6 (.int .i64 Y14)
    refine hK.out _ _ (HC13.out _ EX) ?_
    clear hK K
    intro hS
    (try simp only [Act.put, List.getElem_toArray, List.getElem_cons_succ, List.getElem_cons_zero, List.setIfInBounds_toArray, List.set_cons_zero, List.set_cons_succ])
    refine wpAnyH_done (by kernel_rfl) ?_ _
    go_wp2_with fail
    go_meet
    exact ⟨EZ, KX, OX⟩
  obtain ⟨EG, KG, ov⟩ := hcut
  clear EW KG2 ov2 EG2
  have EW := E0.trans EG
  have KW := KR.ext EG
  have hvw : ∀ k, v.ownBlock = some k → k ≠ w.heap.size := fun k hk => by have := (ov.lt k hk).1; have := KR.lt; omega
  have hd : (⟨6, Pl.at2 xs 0, Pl.at2 (xs.drop 2) 0, Pl.at2 (xs.drop 4) 0 * 65536 + Pl.at2 (xs.drop 6) 0, Pl.at2 (xs.drop 8) 0 * 65536 + Pl.at2 (xs.drop 10) 0, xs.getD 13 0 % 32, Pl.at2 (xs.drop 14) 0⟩ : Sg) = Pl.decSeg 6 xs := by
    simp only [Pl.at2_drop]
    rfl
  rw [hd] at KG
  have ow := ov.mono E0.size
  generalize W0.heap.size = Z0 at *
  clear hd E0 EG KR F0 F2 FC F4 F6 F8 F10 F14 hvg ov
  obtain ⟨av, nv, cv, rfl, _, rv⟩ := ow.read
  have hnv : nv = n - 20 := by have h1 := rv.len; have h2 := HL.out; rw [List.length_drop] at h1; omega
  have hok : Pl.SegOk (Pl.decSeg 6 xs) nv := Pl.decSeg_ok (by decide) HB.out (by omega)
  have ld := KG.seg
  clear hnv
  go_wp2_with ((apply load_by rfl _ _ rfl _ rfl); (focus (with_reducible assumption)))
  refine (sencode_any (Pl.decSeg 6 xs) av nv cv (xs.drop 20) over wc hok rv (HB.out.drop 20) HO.out).mono ?_
  rintro e W2 ⟨v2, rfl, o2, q2⟩
  have E2 := EW.trans q2
  have KG2 := KG.ext q2
  have KW2 := KW.ext q2
  have ow2 := ow.ext q2
  have i2 := HR.out.ext E2
  have hok' : Pl.SegOk (Pl.decSeg 6 xs) (xs.drop 20).length := by rw [rv.len]; exact hok
  have hI : Pl.IsB (Pl.segBytes (Pl.decSeg 6 xs) (Pl.segCheck (Pl.decSeg 6 xs) over (xs.drop 20)) (xs.drop 20)) := Pl.segBytes_isB hok' (Pl.segCheck_bd _ _ _) (HB.out.drop _)
  have hlen := Pl.segBytes_length (s := Pl.decSeg 6 xs) (c := Pl.segCheck (Pl.decSeg 6 xs) over (xs.drop 20)) (xs := xs.drop 20) (by rw [Pl.decSeg_kind]; decide)
  rw [Pl.decSeg_kind, show Pl.segSize 6 = 20 from rfl, List.length_drop, HL.out] at hlen
  have HYES := Lib.hid (Pl.segQ_yes (k := 6) (xs := xs) (over := over) (by decide) HO.out HB.out (by rw [HL.out]; exact ⟨h0, h1⟩))
  have HSUM := Lib.hid (Pl.segQ_sum (k := 6) (xs := xs) (over := over) (by decide) HO.out HB.out (by rw [HL.out]; exact ⟨h0, h1⟩))
  have HSYN := Lib.hid (Pl.segQ_syn (k := 6) (xs := xs) (over := over) (by decide) HO.out HB.out (by rw [HL.out]; exact ⟨h0, h1⟩))
  rw [show Pl.segSize 6 = 20 from rfl] at HYES HSUM HSYN
  have hwl := q2.size
  have hww := KW.lt
  obtain ⟨EN, hEN⟩ : ∃ EN, Pl.segBytes (Pl.decSeg 6 xs) (Pl.segCheck (Pl.decSeg 6 xs) over (xs.drop 20)) (xs.drop 20) = EN := ⟨_, rfl⟩
  rw [hEN] at hI hlen HYES HSUM HSYN o2
  have HI := Lib.hid hI
  have HLEN := Lib.hid hlen
  have HOW2 := Lib.hid ow2
  have HOV := Lib.hid hvw
  clear hEN hI hlen ld KG KW ow EW q2 rv hok hok' ow2 hvw
  by_cases hE : EN = xs
  · obtain ⟨a2, n2, c2, rfl, hc2, r2⟩ := o2.read
    have HQ := Lib.hid (HYES.out hE)
    rw [hE] at r2
    clear hE
    go_wp2_with fail
    refine (equal_yes _ _ _ _ _ _ xs W2 r2 i2).mono ?_
    rintro e w' ⟨rfl, rfl⟩
    have ld := KG2.seg
    have s2 := sto KW2 (Pl.decSeg 6 xs) av nv cv
    go_wp2_with (first | ((apply load_by rfl _ _ rfl _ rfl); (focus (with_reducible assumption))) | ((apply store_by rfl _ _ _ rfl _ rfl); (focus (with_reducible assumption)); (focus rfl)))
    refine bodyPost_ret (results_cell2 Tryz.results37 _ _ w.heap.size 40 ((Pl.decSeg 6 xs).cells (.slice av nv cv)) _ rfl (KW2.row _) Tryz.underlying40 rfl Tryz.sizeSeg) rfl ?_
    refine ⟨.slice av nv cv, ?_, ?_, E2.row (Nat.le_refl _) _⟩
    · unfold Pl.segV
      rw [HQ.out, if_pos rfl]
      rfl
    · unfold Pl.segD
      rw [HQ.out, if_pos rfl]
      exact HOW2.out.rowOff HOV.out _
  have HE := Lib.hid hE
  clear hE
  obtain ⟨g5, n5, c5, rfl, hn5, hc5, hg5, hg5', _, _⟩ := o2.shape (by have := HLEN.out; omega)
  obtain ⟨_, _, _, hv2, _, r2⟩ := o2.read
  cases hv2
  go_wp2_with fail
  refine (equal_no _ _ _ _ _ _ _ xs W2 r2 i2 HI.out HB.out HE.out).mono ?_
  rintro e w' ⟨rfl, rfl⟩
  have k10 : (16 : Int) ≤ (n5 : Int) := by have := HLEN.out; omega
  have k12 : (18 : Int) ≤ (n5 : Int) := by have := HLEN.out; omega
  have k12' : (18 : Int) ≤ (c5 : Int) := by have := HLEN.out; omega
  have kc : ¬ c5 = 16 := by omega
  have kn : (18 : Int) ≤ (n : Int) := by omega
  have kcc : (18 : Int) ≤ (c : Int) := by omega
  have kc' : ¬ c = 16 := by omega
  have is5 := i2.sub 16 18 (by omega) (by omega)
  have HN5 := Lib.hid hn5
  clear hn5
  have kw : IntKind.i64.wrap 18 = 18 := IntWalk.i64_in _ (by omega)
  go_upto_region 13 with (fail)
  refine wp_region_held_drew (S := (fun _ => True)) (by kernel_rfl) trivial (fun hS0 => ?_)
  have is5' := is5.ext (Ext.refl W2).drew
  have o2' := o2.ext (Ext.refl W2).drew
  (refine wpAnyH_take (i := 0) (v := ?_) rfl (by kernel_rfl) (by kernel_rfl) (by kernel_rfl) (fun _ _ _ h => h) (Or.inl ⟨by rfl, ?_⟩) (by assumption) ?_; rotate_left; focus (intro w hSw; (try dsimp only at hSw); go_simp; try with_reducible rfl); try simp only [Act.put, List.getElem_toArray, List.getElem_cons_succ, List.getElem_cons_zero, List.setIfInBounds_toArray, List.set_cons_zero, List.set_cons_succ])
  (refine wpAnyH_take (i := 1) (v := ?_) rfl (by kernel_rfl) (by kernel_rfl) (by kernel_rfl) (fun _ _ _ h => h) (Or.inl ⟨by rfl, ?_⟩) (by assumption) ?_; rotate_left; focus (intro w hSw; (try dsimp only at hSw); go_simp; try with_reducible rfl); try simp only [Act.put, List.getElem_toArray, List.getElem_cons_succ, List.getElem_cons_zero, List.setIfInBounds_toArray, List.set_cons_zero, List.set_cons_succ])
  (refine wpAnyH_take (i := 2) (v := ?_) rfl (by kernel_rfl) (by kernel_rfl) (by kernel_rfl) (fun _ _ _ h => h) (Or.inl ⟨by rfl, ?_⟩) (by assumption) ?_; rotate_left; focus (intro w hSw; (try dsimp only at hSw); go_simp; try with_reducible rfl); try simp only [Act.put, List.getElem_toArray, List.getElem_cons_succ, List.getElem_cons_zero, List.setIfInBounds_toArray, List.set_cons_zero, List.set_cons_succ])
  (refine wpAnyH_take (i := 3) (v := ?_) rfl (by kernel_rfl) (by kernel_rfl) (by kernel_rfl) (fun _ _ _ h => h) (Or.inl ⟨by rfl, ?_⟩) (by assumption) ?_; rotate_left; focus (intro w hSw; (try dsimp only at hSw); go_simp; try with_reducible rfl); try simp only [Act.put, List.getElem_toArray, List.getElem_cons_succ, List.getElem_cons_zero, List.setIfInBounds_toArray, List.set_cons_zero, List.set_cons_succ])
  (refine wpAnyH_take (i := 4) (v := ?_) rfl (by kernel_rfl) (by kernel_rfl) (by kernel_rfl) (fun _ _ _ h => h) (Or.inl ⟨by rfl, ?_⟩) (by assumption) ?_; rotate_left; focus (intro w hSw; (try dsimp only at hSw); go_simp; try with_reducible rfl); try simp only [Act.put, List.getElem_toArray, List.getElem_cons_succ, List.getElem_cons_zero, List.setIfInBounds_toArray, List.set_cons_zero, List.set_cons_succ])
  (refine wpAnyH_take (i := 5) (v := ?_) rfl (by kernel_rfl) (by kernel_rfl) (by kernel_rfl) (fun _ _ _ h => h) (Or.inl ⟨by rfl, ?_⟩) (by assumption) ?_; rotate_left; focus (intro w hSw; (try dsimp only at hSw); go_simp; try with_reducible rfl); try simp only [Act.put, List.getElem_toArray, List.getElem_cons_succ, List.getElem_cons_zero, List.setIfInBounds_toArray, List.set_cons_zero, List.set_cons_succ])
  (refine wpAnyH_take (i := 6) (v := ?_) rfl (by kernel_rfl) (by kernel_rfl) (by kernel_rfl) (fun _ _ _ h => h) (Or.inl ⟨by rfl, ?_⟩) (by assumption) ?_; rotate_left; focus (intro w hSw; (try dsimp only at hSw); go_simp; try with_reducible rfl); try simp only [Act.put, List.getElem_toArray, List.getElem_cons_succ, List.getElem_cons_zero, List.setIfInBounds_toArray, List.set_cons_zero, List.set_cons_succ])
  (refine wpAnyH_take (i := 7) (v := ?_) rfl (by kernel_rfl) (by kernel_rfl) (by kernel_rfl) (fun _ _ _ h => h) (Or.inl ⟨by rfl, ?_⟩) (by assumption) ?_; rotate_left; focus (intro w hSw; (try dsimp only at hSw); go_simp; try with_reducible rfl); try simp only [Act.put, List.getElem_toArray, List.getElem_cons_succ, List.getElem_cons_zero, List.setIfInBounds_toArray, List.set_cons_zero, List.set_cons_succ])
  (refine wpAnyH_take (i := 8) (v := ?_) rfl (by kernel_rfl) (by kernel_rfl) (by kernel_rfl) (fun _ _ _ h => h) (Or.inl ⟨by rfl, ?_⟩) (by assumption) ?_; rotate_left; focus (intro w hSw; (try dsimp only at hSw); go_simp; try with_reducible rfl); try simp only [Act.put, List.getElem_toArray, List.getElem_cons_succ, List.getElem_cons_zero, List.setIfInBounds_toArray, List.set_cons_zero, List.set_cons_succ])
  (refine wpAnyH_take (i := 9) (v := ?_) rfl (by kernel_rfl) (by kernel_rfl) (by kernel_rfl) (fun _ _ _ h => h) (Or.inl ⟨by rfl, ?_⟩) (by assumption) ?_; rotate_left; focus (intro w hSw; (try dsimp only at hSw); go_simp; try with_reducible rfl); try simp only [Act.put, List.getElem_toArray, List.getElem_cons_succ, List.getElem_cons_zero, List.setIfInBounds_toArray, List.set_cons_zero, List.set_cons_succ])
  (try simp only [Act.put, List.getElem_toArray, List.getElem_cons_succ, List.getElem_cons_zero, List.setIfInBounds_toArray, List.set_cons_zero, List.set_cons_succ])
  (refine wpAnyH_ready (rs := [10]) (by kernel_rfl) (by simp) ?_; refine AllReadyH.cons rfl (fun K hK => ?_) AllReadyH.nil)
  (try simp only [Act.put, List.getElem_toArray, List.getElem_cons_succ, List.getElem_cons_zero, List.setIfInBounds_toArray, List.set_cons_zero, List.set_cons_succ])
  rw [if_pos (by rfl)]
  apply wp_copy (d := Operand.tmp 92) (s := Operand.tmp 97) (hown := o2') (hr := is5') (lo := 16)
  case hgd => rfl
  case ho => rfl
  case hd => rfl
  case hs => rfl
  case hlo => omega
  intro W6 o6 b6
  refine hK.out _ _ trivial ?_
  clear hK K
  intro hS
  (try simp only [Act.put, List.setIfInBounds_toArray, List.set_cons_zero, List.set_cons_succ])
  refine wpAnyH_done (by kernel_rfl) ?_ _
  have E6 : Ext w W6 := Below.trans (Ext.drew E2) (Below.mono b6 (Nat.le_of_lt hww))
  have KW6 : Blk W6 w.heap.size 40 #[.int .i64 0, .int .i64 0, .int .i64 0, .int .i64 0, .int .i64 0, .int .i64 0, .int .i64 0, .slice none 0 0] := Blk.below (Blk.drew KW2) b6 hww
  have i6 := HR.out.ext E6
  have hP : EN.take 16 ++ ((xs.drop 16).take 2 ++ EN.drop (16 + 2)) = Pl.patchS 6 EN xs := by unfold Pl.patchS; rw [show Pl.segAt 6 = 16 from rfl]
  rw [hP] at o6
  have hI6 : Pl.IsB (Pl.patchS 6 EN xs) := (HI.out.take _).append (((HB.out.drop _).take 2).append (HI.out.drop _))
  have HI6 := Lib.hid hI6
  have HSM := Lib.hid (HSUM.out HE.out)
  clear hP hI6 is5 is5' o2' KG2 KW2 o2 r2 i2 kw k10 k12 k12' kc kn kcc kc' b6
  obtain ⟨_, _, _, hv6, _, r6⟩ := o6.read
  cases hv6
  have s6 := sto KW6 ⟨0, 0, 0, 0, 0, 0, 0⟩ none 0 0
  by_cases hQ : Pl.patchS 6 EN xs = xs
  · have HQ := Lib.hid (HSM.out hQ)
    rw [hQ] at r6
    clear hQ
    go_wp2_with fail
    refine (equal_yes _ _ _ _ _ _ xs W6 r6 i6).mono ?_
    rintro e w' ⟨rfl, rfl⟩
    go_wp2_with ((apply store_by rfl _ _ _ rfl _ rfl); (focus (with_reducible assumption)); (focus rfl))
    refine bodyPost_ret (results_cell2 Tryz.results37 _ _ w.heap.size 40 #[.int .i64 0, .int .i64 0, .int .i64 0, .int .i64 0, .int .i64 0, .int .i64 0, .int .i64 0, .slice none 0 0] _ rfl (KW6.row _) Tryz.underlying40 rfl Tryz.sizeSeg) rfl (decGot_bad HQ.out (by decide) (E6.row (Nat.le_refl _) _))
  · have HQ := Lib.hid (HSYN.out hQ)
    have HN := Lib.hid hQ
    clear hQ
    go_wp2_with fail
    refine (equal_no _ _ _ _ _ _ _ xs W6 r6 i6 HI6.out HB.out HN.out).mono ?_
    rintro e w' ⟨rfl, rfl⟩
    go_wp2_with ((apply store_by rfl _ _ _ rfl _ rfl); (focus (with_reducible assumption)); (focus rfl))
    refine bodyPost_ret (results_cell2 Tryz.results37 _ _ w.heap.size 40 #[.int .i64 0, .int .i64 0, .int .i64 0, .int .i64 0, .int .i64 0, .int .i64 0, .int .i64 0, .slice none 0 0] _ rfl (KW6.row _) Tryz.underlying40 rfl Tryz.sizeSeg) rfl (decGot_bad HQ.out (by decide) (E6.row (Nat.le_refl _) _))
end Go.Proofs.YtbjogkpepfgegaaGreatDoor
