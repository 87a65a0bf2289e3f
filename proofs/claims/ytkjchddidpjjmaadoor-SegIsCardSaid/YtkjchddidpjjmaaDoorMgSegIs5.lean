/- Texts of this seat in one file (SegC6, Ref1, Ref2, Ref3, Ref4, RefG): contracts and plain laws. Conditions: as each lemma states them. -/
import Derived.Test.YtkjchddidpjjmaaDoorMgSegIs1
import Derived.Test.YtkjchddidpjjmaaDoorMgSegIs2
import Derived.Test.YtkjchddidpjjmaaDoorMgSegIs3
import Derived.Test.YtkjchddidpjjmaaDoorMgSegIs4
import Derived.Deep.RegionLaw
import Derived.Deep.DeepCutAuto
import Derived.Deep.DeepMust
/- The contract of seg.Decode of bytes that are not too short or long, of TCP. Conditions: as each theorem states them. -/
namespace Go.Proofs.YtkjchddidpjjmaaDoor
open Go.RowKit
set_option maxRecDepth 100000 in
set_option maxHeartbeats 8000000 in
theorem sdecode_core6 (a : Option Addr) (n c : Nat) (xs : List Int) (over : Int) (w : World) (hr : Ints .u8 w a n xs) (hb : Pl.IsB xs) (hnc : n ≤ c) (hc : a = none → c = 0) (ho : Pl.Word over) (h0 : 20 ≤ n) (h1 : n ≤ 320) :
    Calls Tryd.prog 34 #[.int .i64 6, .slice a n c, .int .i64 over] w (DecGot 6 xs over w) := by
  obtain ⟨b, off, rfl, hbl, hcell⟩ := hr.at (by omega)
  have hl := hr.len
  have HR := Lib.hid hr
  have HB := Lib.hid hb
  have HO := Lib.hid ho
  have HL := Lib.hid hl
  have KR := Blk.new w 50 #[.int .i64 0, .int .i64 0, .int .i64 0, .int .i64 0, .int .i64 0, .int .i64 0, .int .i64 0, .slice none 0 0]
  have E0 : Ext w (w.alloc (.cells #[.int .i64 0, .int .i64 0, .int .i64 0, .int .i64 0, .int .i64 0, .int .i64 0, .int .i64 0, .slice none 0 0] 50)) := (Ext.refl w).alloc _
  obtain ⟨A2, i2, z2, r2⟩ := slice_tail (some ⟨b, off, none⟩) n c 2 2 rfl (by omega) hnc hc
  obtain ⟨AS, iS, zS, rS⟩ := slice_tail (some ⟨b, off, none⟩) n c 20 20 rfl (by omega) hnc hc
  have F0 := Lib.hid (fun (W : World) (q : Ext w W) => snumber_ext (some ⟨b, off, none⟩) n c xs W (hr.ext q) hb (by omega))
  have F2 := Lib.hid (fun (W : World) (q : Ext w W) => snumber_ext A2 (n - 2) (c - 2) (xs.drop 2) W ((i2 w xs hr).ext q) (hb.drop 2) (by omega))
  have FC := Lib.hid (fun (W : World) (q : Ext w W) => clone_ext AS (n - 20) (c - 20) (xs.drop 20) W ((iS w xs hr).ext q) zS (by omega))
  obtain ⟨A4, i4, z4, r4⟩ := slice_tail (some ⟨b, off, none⟩) n c 4 4 rfl (by omega) hnc hc
  have F4 := Lib.hid (fun (W : World) (q : Ext w W) => snumber_ext A4 (n - 4) (c - 4) (xs.drop 4) W ((i4 w xs hr).ext q) (hb.drop 4) (by omega))
  clear i4 z4
  obtain ⟨A6, i6, z6, r6⟩ := slice_tail (some ⟨b, off, none⟩) n c 6 6 rfl (by omega) hnc hc
  have F6 := Lib.hid (fun (W : World) (q : Ext w W) => snumber_ext A6 (n - 6) (c - 6) (xs.drop 6) W ((i6 w xs hr).ext q) (hb.drop 6) (by omega))
  clear i6 z6
  obtain ⟨A8, i8, z8, r8⟩ := slice_tail (some ⟨b, off, none⟩) n c 8 8 rfl (by omega) hnc hc
  have F8 := Lib.hid (fun (W : World) (q : Ext w W) => snumber_ext A8 (n - 8) (c - 8) (xs.drop 8) W ((i8 w xs hr).ext q) (hb.drop 8) (by omega))
  clear i8 z8
  obtain ⟨A10, i10, z10, r10⟩ := slice_tail (some ⟨b, off, none⟩) n c 10 10 rfl (by omega) hnc hc
  have F10 := Lib.hid (fun (W : World) (q : Ext w W) => snumber_ext A10 (n - 10) (c - 10) (xs.drop 10) W ((i10 w xs hr).ext q) (hb.drop 10) (by omega))
  clear i10 z10
  obtain ⟨A14, i14, z14, r14⟩ := slice_tail (some ⟨b, off, none⟩) n c 14 14 rfl (by omega) hnc hc
  have F14 := Lib.hid (fun (W : World) (q : Ext w W) => snumber_ext A14 (n - 14) (c - 14) (xs.drop 14) W ((i14 w xs hr).ext q) (hb.drop 14) (by omega))
  clear i14 z14
  have l0 : ¬ (n : Int) < 20 := by omega
  have l1 : ¬ (320 : Int) < (n : Int) := by omega
  have HCELL := Lib.hid hcell
  clear hcell hr hb ho hl i2 iS z2 zS hc
  go_enter Tryd.func34, Tryd.ntmps34
  go_wp2_with fail
  refine (known_any _ _).mono ?_
  rintro e w' ⟨rfl, rfl⟩
  go_wp2_with fail
  refine (sword_yes over _ HO.out).mono ?_
  rintro e w' ⟨rfl, rfl⟩
  go_wp2_with fail
  refine (head_6 _).mono ?_
  rintro e w' ⟨rfl, rfl⟩
  go_upto_region 6 with (fail)
  refine at_worldE (fun W => Ext w W ∧ Blk W w.heap.size 50 #[.int .i64 0, .int .i64 0, .int .i64 0, .int .i64 0, .int .i64 0, .int .i64 0, .int .i64 0, .slice none 0 0]) ⟨E0, KR⟩ ?_
  clear E0 KR
  rintro W0 ⟨E0, KR⟩
  go_cut [10] (fun p wc => ∃ g v, p = .pointer (some ⟨g, 0, none⟩) ∧ W0.heap.size ≤ g ∧ Own wc W0.heap.size v (xs.drop 20) ∧ (∀ k, v.ownBlock = some k → k ≠ g) ∧ Blk wc g 50 ((⟨6, Pl.at2 xs 0, Pl.at2 (xs.drop 2) 0, 0, 0, 0, 0⟩ : Sg).cells v) ∧ Ext W0 wc)
  case first =>
    have EX : Ext W0 W0.drew := (Ext.refl W0).drew
    refine wp_region_held_drew (S := (fun _ => True)) (by kernel_rfl) trivial (fun hS0 => ?_)
    generalize W0.drew = V0 at *
    (refine wpAnyH_take (i := 0) (v := ?_) rfl (by kernel_rfl) (by kernel_rfl) (by kernel_rfl) (fun _ _ _ h => h) (Or.inl ⟨by rfl, ?_⟩) (by assumption) ?_; rotate_left; focus (intro w hSw; (try dsimp only at hSw); go_simp; try with_reducible rfl); try simp only [Act.put, List.getElem_toArray, List.getElem_cons_succ, List.getElem_cons_zero, List.setIfInBounds_toArray, List.set_cons_zero, List.set_cons_succ])
    (refine wpAnyH_take (i := 1) (v := ?_) rfl (by kernel_rfl) (by kernel_rfl) (by kernel_rfl) (fun _ _ _ h => h) (Or.inl ⟨by rfl, ?_⟩) (by assumption) ?_; rotate_left; focus (intro w hSw; (try dsimp only at hSw); go_simp; try with_reducible rfl); try simp only [Act.put, List.getElem_toArray, List.getElem_cons_succ, List.getElem_cons_zero, List.setIfInBounds_toArray, List.set_cons_zero, List.set_cons_succ])
    (refine wpAnyH_take (i := 3) (v := ?_) rfl (by kernel_rfl) (by kernel_rfl) (by kernel_rfl) (fun _ _ _ h => h) (Or.inl ⟨by rfl, ?_⟩) (by assumption) ?_; rotate_left; focus (intro w hSw; (try dsimp only at hSw); go_simp; try with_reducible rfl); try simp only [Act.put, List.getElem_toArray, List.getElem_cons_succ, List.getElem_cons_zero, List.setIfInBounds_toArray, List.set_cons_zero, List.set_cons_succ])
    (refine wpAnyH_take (i := 4) (v := ?_) rfl (by kernel_rfl) (by kernel_rfl) (by kernel_rfl) (fun _ _ _ h => h) (Or.inl ⟨by rfl, ?_⟩) (by assumption) ?_; rotate_left; focus (intro w hSw; (try dsimp only at hSw); go_simp; try with_reducible rfl); try simp only [Act.put, List.getElem_toArray, List.getElem_cons_succ, List.getElem_cons_zero, List.setIfInBounds_toArray, List.set_cons_zero, List.set_cons_succ])
    (refine wpAnyH_take (i := 6) (v := ?_) rfl (by kernel_rfl) (by kernel_rfl) (by kernel_rfl) (fun _ _ _ h => h) (Or.inl ⟨by rfl, ?_⟩) (by assumption) ?_; rotate_left; focus (intro w hSw; (try dsimp only at hSw); go_simp; try with_reducible rfl); try simp only [Act.put, List.getElem_toArray, List.getElem_cons_succ, List.getElem_cons_zero, List.setIfInBounds_toArray, List.set_cons_zero, List.set_cons_succ])
    (refine wpAnyH_take (i := 7) (v := ?_) rfl (by kernel_rfl) (by kernel_rfl) (by kernel_rfl) (fun _ _ _ h => h) (Or.inl ⟨by rfl, ?_⟩) (by assumption) ?_; rotate_left; focus (intro w hSw; (try dsimp only at hSw); go_simp; try with_reducible rfl); try simp only [Act.put, List.getElem_toArray, List.getElem_cons_succ, List.getElem_cons_zero, List.setIfInBounds_toArray, List.set_cons_zero, List.set_cons_succ])
    (refine wpAnyH_take (i := 8) (v := ?_) rfl (by kernel_rfl) (by kernel_rfl) (by kernel_rfl) (fun _ _ _ h => h) (Or.inl ⟨by rfl, ?_⟩) (by assumption) ?_; rotate_left; focus (intro w hSw; (try dsimp only at hSw); go_simp; try with_reducible rfl); try simp only [Act.put, List.getElem_toArray, List.getElem_cons_succ, List.getElem_cons_zero, List.setIfInBounds_toArray, List.set_cons_zero, List.set_cons_succ])
    refine wpAnyH_ready (rs := [2, 11]) (by kernel_rfl) (by simp) ?_
    refine AllReadyH.cons rfl (fun K hK => ?_) (AllReadyH.cons rfl (fun K hK => ?_) AllReadyH.nil)
    · go_simp
      go_at_call 70
      refine (F0.out _ (E0.trans EX)).mono ?_
      rintro e V1 ⟨rfl, q⟩
      replace EX := EX.trans q
      refine hK.out _ _ trivial ?_
      clear hK K q
      intro hS
      (try simp only [Act.put, List.getElem_toArray, List.getElem_cons_succ, List.getElem_cons_zero, List.setIfInBounds_toArray, List.set_cons_zero, List.set_cons_succ])
      refine wpAnyH_ready (rs := [5, 11]) (by kernel_rfl) (by simp) ?_
      refine AllReadyH.cons rfl (fun K hK => ?_) (AllReadyH.cons rfl (fun K hK => ?_) AllReadyH.nil)
      · go_simp
        go_at_call 70
        refine (F2.out _ (E0.trans EX)).mono ?_
        rintro e V2 ⟨rfl, q⟩
        replace EX := EX.trans q
        refine hK.out _ _ trivial ?_
        clear hK K q
        intro hS
        (try simp only [Act.put, List.getElem_toArray, List.getElem_cons_succ, List.getElem_cons_zero, List.setIfInBounds_toArray, List.set_cons_zero, List.set_cons_succ])
        refine wpAnyH_ready (rs := [9, 11]) (by kernel_rfl) (by simp) ?_
        refine AllReadyH.cons rfl (fun K hK => ?_) (AllReadyH.cons rfl (fun K hK => ?_) AllReadyH.nil)
        · go_simp
          go_at_call 57
          refine (FC.out _ (E0.trans EX)).mono ?_
          rintro e V3 ⟨v3, rfl, o3, q⟩
          obtain ⟨a3, n3, c3, rfl, _, _⟩ := o3.read
          replace o3 := o3.mono EX.size
          replace EX := EX.trans q
          refine hK.out _ _ trivial ?_
          clear hK K q
          intro hS
          (try simp only [Act.put, List.getElem_toArray, List.getElem_cons_succ, List.getElem_cons_zero, List.setIfInBounds_toArray, List.set_cons_zero, List.set_cons_succ])
          (refine wpAnyH_take (i := 10) (v := ?_) rfl (by kernel_rfl) (by kernel_rfl) (by kernel_rfl) (fun _ _ _ h => h) (Or.inl ⟨by rfl, ?_⟩) (by assumption) ?_; rotate_left; focus (intro w hSw; (try dsimp only at hSw); go_simp; try with_reducible rfl); try simp only [Act.put, List.getElem_toArray, List.getElem_cons_succ, List.getElem_cons_zero, List.setIfInBounds_toArray, List.set_cons_zero, List.set_cons_succ])
          refine wpAnyH_ready (rs := [11]) (by kernel_rfl) (by simp) ?_
          refine AllReadyH.cons rfl (fun K hK => ?_) AllReadyH.nil
          · go_simp
            have KG := Blk.new V3 50 #[.int .i64 0, .int .i64 0, .int .i64 0, .int .i64 0, .int .i64 0, .int .i64 0, .int .i64 0, .slice none 0 0]
            have EX4 := EX.alloc (.cells #[.int .i64 0, .int .i64 0, .int .i64 0, .int .i64 0, .int .i64 0, .int .i64 0, .int .i64 0, .slice none 0 0] 50)
            have hgl : W0.heap.size ≤ V3.heap.size := EX.size
            have hob : ∀ j, (Value.slice a3 n3 c3).ownBlock = some j → j ≠ V3.heap.size := fun j hj => by
              have h1 := o3.lt j hj
              omega
            replace o3 := o3.ext ((Ext.refl V3).alloc (.cells #[.int .i64 0, .int .i64 0, .int .i64 0, .int .i64 0, .int .i64 0, .int .i64 0, .int .i64 0, .slice none 0 0] 50))
            refine hK.out _ _ trivial ?_
            clear hK K
            intro hS
            clear EX
            generalize V3.alloc (.cells #[.int .i64 0, .int .i64 0, .int .i64 0, .int .i64 0, .int .i64 0, .int .i64 0, .int .i64 0, .slice none 0 0] 50) = V4 at *
            have EX := EX4
            clear EX4
            generalize V3.heap.size = g at *
            (try simp only [Act.put, List.getElem_toArray, List.getElem_cons_succ, List.getElem_cons_zero, List.setIfInBounds_toArray, List.set_cons_zero, List.set_cons_succ])
            (refine wpAnyH_ready (rs := [12]) (by kernel_rfl) (by simp) ?_; refine AllReadyH.cons rfl (fun K hK => ?_) AllReadyH.nil)
            rw [if_pos (by rfl)]
            refine wp_store_by _ _ _ rfl _ rfl (sto KG ⟨6, Pl.at2 xs 0, Pl.at2 (xs.drop 2) 0, 0, 0, 0, 0⟩ a3 n3 c3) rfl ?_
            refine hK.out _ _ trivial ?_
            clear hK K
            intro hS
            (try simp only [Act.put])
            refine wpAnyH_done (by kernel_rfl) ?_ _
            have K8 := KG.row ((⟨6, Pl.at2 xs 0, Pl.at2 (xs.drop 2) 0, 0, 0, 0, 0⟩ : Sg).cells (.slice a3 n3 c3))
            have o8 := o3.rowOff hob ((⟨6, Pl.at2 xs 0, Pl.at2 (xs.drop 2) 0, 0, 0, 0, 0⟩ : Sg).cells (.slice a3 n3 c3))
            have E8 := EX.row hgl ((⟨6, Pl.at2 xs 0, Pl.at2 (xs.drop 2) 0, 0, 0, 0, 0⟩ : Sg).cells (.slice a3 n3 c3))
            go_wp2_with fail
            go_meet
            exact ⟨_, _, rfl, hgl, o8, hob, K8, E8⟩
        · go_simp
          have KG := Blk.new V2 50 #[.int .i64 0, .int .i64 0, .int .i64 0, .int .i64 0, .int .i64 0, .int .i64 0, .int .i64 0, .slice none 0 0]
          have EX3 := EX.alloc (.cells #[.int .i64 0, .int .i64 0, .int .i64 0, .int .i64 0, .int .i64 0, .int .i64 0, .int .i64 0, .slice none 0 0] 50)
          have hgl : W0.heap.size ≤ V2.heap.size := EX.size
          refine hK.out _ _ trivial ?_
          clear hK K
          intro hS
          clear EX
          generalize V2.alloc (.cells #[.int .i64 0, .int .i64 0, .int .i64 0, .int .i64 0, .int .i64 0, .int .i64 0, .int .i64 0, .slice none 0 0] 50) = V3 at *
          have EX := EX3
          clear EX3
          generalize V2.heap.size = g at *
          (try simp only [Act.put, List.getElem_toArray, List.getElem_cons_succ, List.getElem_cons_zero, List.setIfInBounds_toArray, List.set_cons_zero, List.set_cons_succ])
          refine wpAnyH_ready (rs := [9]) (by kernel_rfl) (by simp) ?_
          refine AllReadyH.cons rfl (fun K hK => ?_) AllReadyH.nil
          · go_simp
            go_at_call 57
            refine (FC.out _ (E0.trans EX)).mono ?_
            rintro e V4 ⟨v3, rfl, o3, q⟩
            obtain ⟨a3, n3, c3, rfl, _, _⟩ := o3.read
            have hob : ∀ j, (Value.slice a3 n3 c3).ownBlock = some j → j ≠ g := fun j hj => by
              have h1 := o3.lt j hj
              have h2 := KG.lt
              omega
            replace KG := KG.ext q
            replace o3 := o3.mono EX.size
            replace EX := EX.trans q
            refine hK.out _ _ trivial ?_
            clear hK K q
            intro hS
            (try simp only [Act.put, List.getElem_toArray, List.getElem_cons_succ, List.getElem_cons_zero, List.setIfInBounds_toArray, List.set_cons_zero, List.set_cons_succ])
            (refine wpAnyH_take (i := 10) (v := ?_) rfl (by kernel_rfl) (by kernel_rfl) (by kernel_rfl) (fun _ _ _ h => h) (Or.inl ⟨by rfl, ?_⟩) (by assumption) ?_; rotate_left; focus (intro w hSw; (try dsimp only at hSw); go_simp; try with_reducible rfl); try simp only [Act.put, List.getElem_toArray, List.getElem_cons_succ, List.getElem_cons_zero, List.setIfInBounds_toArray, List.set_cons_zero, List.set_cons_succ])
            (refine wpAnyH_ready (rs := [12]) (by kernel_rfl) (by simp) ?_; refine AllReadyH.cons rfl (fun K hK => ?_) AllReadyH.nil)
            rw [if_pos (by rfl)]
            refine wp_store_by _ _ _ rfl _ rfl (sto KG ⟨6, Pl.at2 xs 0, Pl.at2 (xs.drop 2) 0, 0, 0, 0, 0⟩ a3 n3 c3) rfl ?_
            refine hK.out _ _ trivial ?_
            clear hK K
            intro hS
            (try simp only [Act.put, List.getElem_toArray, List.getElem_cons_succ, List.getElem_cons_zero, List.setIfInBounds_toArray, List.set_cons_zero, List.set_cons_succ])
            refine wpAnyH_done (by kernel_rfl) ?_ _
            have K8 := KG.row ((⟨6, Pl.at2 xs 0, Pl.at2 (xs.drop 2) 0, 0, 0, 0, 0⟩ : Sg).cells (.slice a3 n3 c3))
            have o8 := o3.rowOff hob ((⟨6, Pl.at2 xs 0, Pl.at2 (xs.drop 2) 0, 0, 0, 0, 0⟩ : Sg).cells (.slice a3 n3 c3))
            have E8 := EX.row hgl ((⟨6, Pl.at2 xs 0, Pl.at2 (xs.drop 2) 0, 0, 0, 0, 0⟩ : Sg).cells (.slice a3 n3 c3))
            go_wp2_with fail
            go_meet
            exact ⟨_, _, rfl, hgl, o8, hob, K8, E8⟩
      · go_simp
        have KG := Blk.new V1 50 #[.int .i64 0, .int .i64 0, .int .i64 0, .int .i64 0, .int .i64 0, .int .i64 0, .int .i64 0, .slice none 0 0]
        have EX2 := EX.alloc (.cells #[.int .i64 0, .int .i64 0, .int .i64 0, .int .i64 0, .int .i64 0, .int .i64 0, .int .i64 0, .slice none 0 0] 50)
        have hgl : W0.heap.size ≤ V1.heap.size := EX.size
        refine hK.out _ _ trivial ?_
        clear hK K
        intro hS
        clear EX
        generalize V1.alloc (.cells #[.int .i64 0, .int .i64 0, .int .i64 0, .int .i64 0, .int .i64 0, .int .i64 0, .int .i64 0, .slice none 0 0] 50) = V2 at *
        have EX := EX2
        clear EX2
        generalize V1.heap.size = g at *
        (try simp only [Act.put, List.getElem_toArray, List.getElem_cons_succ, List.getElem_cons_zero, List.setIfInBounds_toArray, List.set_cons_zero, List.set_cons_succ])
        refine wpAnyH_ready (rs := [5]) (by kernel_rfl) (by simp) ?_
        refine AllReadyH.cons rfl (fun K hK => ?_) AllReadyH.nil
        · go_simp
          go_at_call 70
          refine (F2.out _ (E0.trans EX)).mono ?_
          rintro e V3 ⟨rfl, q⟩
          replace EX := EX.trans q
          replace KG := KG.ext q
          refine hK.out _ _ trivial ?_
          clear hK K q
          intro hS
          (try simp only [Act.put, List.getElem_toArray, List.getElem_cons_succ, List.getElem_cons_zero, List.setIfInBounds_toArray, List.set_cons_zero, List.set_cons_succ])
          refine wpAnyH_ready (rs := [9]) (by kernel_rfl) (by simp) ?_
          refine AllReadyH.cons rfl (fun K hK => ?_) AllReadyH.nil
          · go_simp
            go_at_call 57
            refine (FC.out _ (E0.trans EX)).mono ?_
            rintro e V4 ⟨v3, rfl, o3, q⟩
            obtain ⟨a3, n3, c3, rfl, _, _⟩ := o3.read
            have hob : ∀ j, (Value.slice a3 n3 c3).ownBlock = some j → j ≠ g := fun j hj => by
              have h1 := o3.lt j hj
              have h2 := KG.lt
              omega
            replace KG := KG.ext q
            replace o3 := o3.mono EX.size
            replace EX := EX.trans q
            refine hK.out _ _ trivial ?_
            clear hK K q
            intro hS
            (try simp only [Act.put, List.getElem_toArray, List.getElem_cons_succ, List.getElem_cons_zero, List.setIfInBounds_toArray, List.set_cons_zero, List.set_cons_succ])
            (refine wpAnyH_take (i := 10) (v := ?_) rfl (by kernel_rfl) (by kernel_rfl) (by kernel_rfl) (fun _ _ _ h => h) (Or.inl ⟨by rfl, ?_⟩) (by assumption) ?_; rotate_left; focus (intro w hSw; (try dsimp only at hSw); go_simp; try with_reducible rfl); try simp only [Act.put, List.getElem_toArray, List.getElem_cons_succ, List.getElem_cons_zero, List.setIfInBounds_toArray, List.set_cons_zero, List.set_cons_succ])
            (refine wpAnyH_ready (rs := [12]) (by kernel_rfl) (by simp) ?_; refine AllReadyH.cons rfl (fun K hK => ?_) AllReadyH.nil)
            rw [if_pos (by rfl)]
            refine wp_store_by _ _ _ rfl _ rfl (sto KG ⟨6, Pl.at2 xs 0, Pl.at2 (xs.drop 2) 0, 0, 0, 0, 0⟩ a3 n3 c3) rfl ?_
            refine hK.out _ _ trivial ?_
            clear hK K
            intro hS
            (try simp only [Act.put, List.getElem_toArray, List.getElem_cons_succ, List.getElem_cons_zero, List.setIfInBounds_toArray, List.set_cons_zero, List.set_cons_succ])
            refine wpAnyH_done (by kernel_rfl) ?_ _
            have K8 := KG.row ((⟨6, Pl.at2 xs 0, Pl.at2 (xs.drop 2) 0, 0, 0, 0, 0⟩ : Sg).cells (.slice a3 n3 c3))
            have o8 := o3.rowOff hob ((⟨6, Pl.at2 xs 0, Pl.at2 (xs.drop 2) 0, 0, 0, 0, 0⟩ : Sg).cells (.slice a3 n3 c3))
            have E8 := EX.row hgl ((⟨6, Pl.at2 xs 0, Pl.at2 (xs.drop 2) 0, 0, 0, 0, 0⟩ : Sg).cells (.slice a3 n3 c3))
            go_wp2_with fail
            go_meet
            exact ⟨_, _, rfl, hgl, o8, hob, K8, E8⟩
    · go_simp
      have KG := Blk.new V0 50 #[.int .i64 0, .int .i64 0, .int .i64 0, .int .i64 0, .int .i64 0, .int .i64 0, .int .i64 0, .slice none 0 0]
      have EX1 := EX.alloc (.cells #[.int .i64 0, .int .i64 0, .int .i64 0, .int .i64 0, .int .i64 0, .int .i64 0, .int .i64 0, .slice none 0 0] 50)
      have hgl : W0.heap.size ≤ V0.heap.size := EX.size
      refine hK.out _ _ trivial ?_
      clear hK K
      intro hS
      clear EX
      generalize V0.alloc (.cells #[.int .i64 0, .int .i64 0, .int .i64 0, .int .i64 0, .int .i64 0, .int .i64 0, .int .i64 0, .slice none 0 0] 50) = V1 at *
      have EX := EX1
      clear EX1
      generalize V0.heap.size = g at *
      (try simp only [Act.put, List.getElem_toArray, List.getElem_cons_succ, List.getElem_cons_zero, List.setIfInBounds_toArray, List.set_cons_zero, List.set_cons_succ])
      refine wpAnyH_ready (rs := [2]) (by kernel_rfl) (by simp) ?_
      refine AllReadyH.cons rfl (fun K hK => ?_) AllReadyH.nil
      · go_simp
        go_at_call 70
        refine (F0.out _ (E0.trans EX)).mono ?_
        rintro e V2 ⟨rfl, q⟩
        replace EX := EX.trans q
        replace KG := KG.ext q
        refine hK.out _ _ trivial ?_
        clear hK K q
        intro hS
        (try simp only [Act.put, List.getElem_toArray, List.getElem_cons_succ, List.getElem_cons_zero, List.setIfInBounds_toArray, List.set_cons_zero, List.set_cons_succ])
        refine wpAnyH_ready (rs := [5]) (by kernel_rfl) (by simp) ?_
        refine AllReadyH.cons rfl (fun K hK => ?_) AllReadyH.nil
        · go_simp
          go_at_call 70
          refine (F2.out _ (E0.trans EX)).mono ?_
          rintro e V3 ⟨rfl, q⟩
          replace EX := EX.trans q
          replace KG := KG.ext q
          refine hK.out _ _ trivial ?_
          clear hK K q
          intro hS
          (try simp only [Act.put, List.getElem_toArray, List.getElem_cons_succ, List.getElem_cons_zero, List.setIfInBounds_toArray, List.set_cons_zero, List.set_cons_succ])
          refine wpAnyH_ready (rs := [9]) (by kernel_rfl) (by simp) ?_
          refine AllReadyH.cons rfl (fun K hK => ?_) AllReadyH.nil
          · go_simp
            go_at_call 57
            refine (FC.out _ (E0.trans EX)).mono ?_
            rintro e V4 ⟨v3, rfl, o3, q⟩
            obtain ⟨a3, n3, c3, rfl, _, _⟩ := o3.read
            have hob : ∀ j, (Value.slice a3 n3 c3).ownBlock = some j → j ≠ g := fun j hj => by
              have h1 := o3.lt j hj
              have h2 := KG.lt
              omega
            replace KG := KG.ext q
            replace o3 := o3.mono EX.size
            replace EX := EX.trans q
            refine hK.out _ _ trivial ?_
            clear hK K q
            intro hS
            (try simp only [Act.put, List.getElem_toArray, List.getElem_cons_succ, List.getElem_cons_zero, List.setIfInBounds_toArray, List.set_cons_zero, List.set_cons_succ])
            (refine wpAnyH_take (i := 10) (v := ?_) rfl (by kernel_rfl) (by kernel_rfl) (by kernel_rfl) (fun _ _ _ h => h) (Or.inl ⟨by rfl, ?_⟩) (by assumption) ?_; rotate_left; focus (intro w hSw; (try dsimp only at hSw); go_simp; try with_reducible rfl); try simp only [Act.put, List.getElem_toArray, List.getElem_cons_succ, List.getElem_cons_zero, List.setIfInBounds_toArray, List.set_cons_zero, List.set_cons_succ])
            (refine wpAnyH_ready (rs := [12]) (by kernel_rfl) (by simp) ?_; refine AllReadyH.cons rfl (fun K hK => ?_) AllReadyH.nil)
            rw [if_pos (by rfl)]
            refine wp_store_by _ _ _ rfl _ rfl (sto KG ⟨6, Pl.at2 xs 0, Pl.at2 (xs.drop 2) 0, 0, 0, 0, 0⟩ a3 n3 c3) rfl ?_
            refine hK.out _ _ trivial ?_
            clear hK K
            intro hS
            (try simp only [Act.put, List.getElem_toArray, List.getElem_cons_succ, List.getElem_cons_zero, List.setIfInBounds_toArray, List.set_cons_zero, List.set_cons_succ])
            refine wpAnyH_done (by kernel_rfl) ?_ _
            have K8 := KG.row ((⟨6, Pl.at2 xs 0, Pl.at2 (xs.drop 2) 0, 0, 0, 0, 0⟩ : Sg).cells (.slice a3 n3 c3))
            have o8 := o3.rowOff hob ((⟨6, Pl.at2 xs 0, Pl.at2 (xs.drop 2) 0, 0, 0, 0, 0⟩ : Sg).cells (.slice a3 n3 c3))
            have E8 := EX.row hgl ((⟨6, Pl.at2 xs 0, Pl.at2 (xs.drop 2) 0, 0, 0, 0, 0⟩ : Sg).cells (.slice a3 n3 c3))
            go_wp2_with fail
            go_meet
            exact ⟨_, _, rfl, hgl, o8, hob, K8, E8⟩
  obtain ⟨g, v, rfl, hgl, ov, hvg, KG, EG⟩ := hcut
  have EW := E0.trans EG
  go_upto_region 8 with (fail)
  go_cut [] (fun wx => Ext W0 wx ∧ Blk wx g 50 ((⟨6, Pl.at2 xs 0, Pl.at2 (xs.drop 2) 0, Pl.at2 (xs.drop 4) 0 * 65536 + Pl.at2 (xs.drop 6) 0, Pl.at2 (xs.drop 8) 0 * 65536 + Pl.at2 (xs.drop 10) 0, 0, 0⟩ : Sg).cells v) ∧ Own wx W0.heap.size v (xs.drop 20))
  case first =>
    have EX := EW.drew
    have EZ := EG.drew
    have KX : Blk wc.drew g _ _ := KG.drew
    have OX : Own wc.drew W0.heap.size v (xs.drop 20) := ov.ext (Ext.refl wc).drew
    have y4 := Pl.at2_rng (HB.out.drop 4) 0
    have y6 := Pl.at2_rng (HB.out.drop 6) 0
    have y8 := Pl.at2_rng (HB.out.drop 8) 0
    have y10 := Pl.at2_rng (HB.out.drop 10) 0
    generalize Pl.at2 xs 0 = Y0 at *
    generalize Pl.at2 (xs.drop 2) 0 = Y2 at *
    generalize Pl.at2 (xs.drop 4) 0 = Y4 at *
    generalize Pl.at2 (xs.drop 6) 0 = Y6 at *
    generalize Pl.at2 (xs.drop 8) 0 = Y8 at *
    generalize Pl.at2 (xs.drop 10) 0 = Y10 at *
    have m4 : IntKind.i64.wrap (Y4 * 65536) = Y4 * 65536 := IntWalk.i64_in _ (by omega)
    have m8 : IntKind.i64.wrap (Y8 * 65536) = Y8 * 65536 := IntWalk.i64_in _ (by omega)
    have e46 : bits .or .i64 (Y4 * 65536) Y6 = Y4 * 65536 + Y6 := or16 (by omega) (by omega) (by omega) (by omega) (by omega)
    have e810 : bits .or .i64 (Y8 * 65536) Y10 = Y8 * 65536 + Y10 := or16 (by omega) (by omega) (by omega) (by omega) (by omega)
    refine wp_region_held_drew (S := (fun _ => True)) (by kernel_rfl) trivial (fun hS0 => ?_)
    generalize wc.drew = V0 at *
    (refine wpAnyH_take (i := 0) (v := ?_) rfl (by kernel_rfl) (by kernel_rfl) (by kernel_rfl) (fun _ _ _ h => h) (Or.inl ⟨by rfl, ?_⟩) (by assumption) ?_; rotate_left; focus (intro w hSw; (try dsimp only at hSw); go_simp; try with_reducible rfl); try simp only [Act.put, List.getElem_toArray, List.getElem_cons_succ, List.getElem_cons_zero, List.setIfInBounds_toArray, List.set_cons_zero, List.set_cons_succ])
    (refine wpAnyH_take (i := 1) (v := ?_) rfl (by kernel_rfl) (by kernel_rfl) (by kernel_rfl) (fun _ _ _ h => h) (Or.inl ⟨by rfl, ?_⟩) (by assumption) ?_; rotate_left; focus (intro w hSw; (try dsimp only at hSw); go_simp; try with_reducible rfl); try simp only [Act.put, List.getElem_toArray, List.getElem_cons_succ, List.getElem_cons_zero, List.setIfInBounds_toArray, List.set_cons_zero, List.set_cons_succ])
    (refine wpAnyH_take (i := 4) (v := ?_) rfl (by kernel_rfl) (by kernel_rfl) (by kernel_rfl) (fun _ _ _ h => h) (Or.inl ⟨by rfl, ?_⟩) (by assumption) ?_; rotate_left; focus (intro w hSw; (try dsimp only at hSw); go_simp; try with_reducible rfl); try simp only [Act.put, List.getElem_toArray, List.getElem_cons_succ, List.getElem_cons_zero, List.setIfInBounds_toArray, List.set_cons_zero, List.set_cons_succ])
    (refine wpAnyH_take (i := 5) (v := ?_) rfl (by kernel_rfl) (by kernel_rfl) (by kernel_rfl) (fun _ _ _ h => h) (Or.inl ⟨by rfl, ?_⟩) (by assumption) ?_; rotate_left; focus (intro w hSw; (try dsimp only at hSw); go_simp; try with_reducible rfl); try simp only [Act.put, List.getElem_toArray, List.getElem_cons_succ, List.getElem_cons_zero, List.setIfInBounds_toArray, List.set_cons_zero, List.set_cons_succ])
    (refine wpAnyH_take (i := 8) (v := ?_) rfl (by kernel_rfl) (by kernel_rfl) (by kernel_rfl) (fun _ _ _ h => h) (Or.inl ⟨by rfl, ?_⟩) (by assumption) ?_; rotate_left; focus (intro w hSw; (try dsimp only at hSw); go_simp; try with_reducible rfl); try simp only [Act.put, List.getElem_toArray, List.getElem_cons_succ, List.getElem_cons_zero, List.setIfInBounds_toArray, List.set_cons_zero, List.set_cons_succ])
    (refine wpAnyH_take (i := 9) (v := ?_) rfl (by kernel_rfl) (by kernel_rfl) (by kernel_rfl) (fun _ _ _ h => h) (Or.inl ⟨by rfl, ?_⟩) (by assumption) ?_; rotate_left; focus (intro w hSw; (try dsimp only at hSw); go_simp; try with_reducible rfl); try simp only [Act.put, List.getElem_toArray, List.getElem_cons_succ, List.getElem_cons_zero, List.setIfInBounds_toArray, List.set_cons_zero, List.set_cons_succ])
    (refine wpAnyH_take (i := 12) (v := ?_) rfl (by kernel_rfl) (by kernel_rfl) (by kernel_rfl) (fun _ _ _ h => h) (Or.inl ⟨by rfl, ?_⟩) (by assumption) ?_; rotate_left; focus (intro w hSw; (try dsimp only at hSw); go_simp; try with_reducible rfl); try simp only [Act.put, List.getElem_toArray, List.getElem_cons_succ, List.getElem_cons_zero, List.setIfInBounds_toArray, List.set_cons_zero, List.set_cons_succ])
    (refine wpAnyH_take (i := 13) (v := ?_) rfl (by kernel_rfl) (by kernel_rfl) (by kernel_rfl) (fun _ _ _ h => h) (Or.inl ⟨by rfl, ?_⟩) (by assumption) ?_; rotate_left; focus (intro w hSw; (try dsimp only at hSw); go_simp; try with_reducible rfl); try simp only [Act.put, List.getElem_toArray, List.getElem_cons_succ, List.getElem_cons_zero, List.setIfInBounds_toArray, List.set_cons_zero, List.set_cons_succ])
    (refine wpAnyH_ready (rs := [2]) (by kernel_rfl) (by simp) ?_; refine AllReadyH.cons rfl (fun K hK => ?_) AllReadyH.nil)
    go_simp
    go_at_call 70
    refine (F4.out _ EX).mono ?_
    rintro e V1 ⟨rfl, q⟩
    replace EX := EX.trans q
    replace EZ := EZ.trans q
    replace KX := KX.ext q
    replace OX := OX.ext q
    refine hK.out _ _ trivial ?_
    clear hK K q
    intro hS
    (try simp only [Act.put, List.getElem_toArray, List.getElem_cons_succ, List.getElem_cons_zero, List.setIfInBounds_toArray, List.set_cons_zero, List.set_cons_succ])
    (refine wpAnyH_take (i := 3) (v := ?_) rfl (by kernel_rfl) (by kernel_rfl) (by kernel_rfl) (fun _ _ _ h => h) (Or.inl ⟨by rfl, ?_⟩) (by assumption) ?_; rotate_left; focus (intro w hSw; (try dsimp only at hSw); go_simp; try with_reducible rfl); try simp only [Act.put, List.getElem_toArray, List.getElem_cons_succ, List.getElem_cons_zero, List.setIfInBounds_toArray, List.set_cons_zero, List.set_cons_succ])
    (refine wpAnyH_ready (rs := [6]) (by kernel_rfl) (by simp) ?_; refine AllReadyH.cons rfl (fun K hK => ?_) AllReadyH.nil)
    go_simp
    go_at_call 70
    refine (F6.out _ EX).mono ?_
    rintro e V1 ⟨rfl, q⟩
    replace EX := EX.trans q
    replace EZ := EZ.trans q
    replace KX := KX.ext q
    replace OX := OX.ext q
    refine hK.out _ _ trivial ?_
    clear hK K q
    intro hS
    (try simp only [Act.put, List.getElem_toArray, List.getElem_cons_succ, List.getElem_cons_zero, List.setIfInBounds_toArray, List.set_cons_zero, List.set_cons_succ])
    (refine wpAnyH_take (i := 7) (v := ?_) rfl (by kernel_rfl) (by kernel_rfl) (by kernel_rfl) (fun _ _ _ h => h) (Or.inl ⟨by rfl, ?_⟩) (by assumption) ?_; rotate_left; focus (intro w hSw; (try dsimp only at hSw); go_simp; try with_reducible rfl); try simp only [Act.put, List.getElem_toArray, List.getElem_cons_succ, List.getElem_cons_zero, List.setIfInBounds_toArray, List.set_cons_zero, List.set_cons_succ])
    (refine wpAnyH_take (i := 16) (v := ?_) rfl (by kernel_rfl) (by kernel_rfl) (by kernel_rfl) (fun _ _ _ h => h) (Or.inl ⟨by rfl, ?_⟩) (by assumption) ?_; rotate_left; focus (intro w hSw; (try dsimp only at hSw); go_simp; try with_reducible rfl); try simp only [Act.put, List.getElem_toArray, List.getElem_cons_succ, List.getElem_cons_zero, List.setIfInBounds_toArray, List.set_cons_zero, List.set_cons_succ])
    (refine wpAnyH_ready (rs := [10]) (by kernel_rfl) (by simp) ?_; refine AllReadyH.cons rfl (fun K hK => ?_) AllReadyH.nil)
    go_simp
    go_at_call 70
    refine (F8.out _ EX).mono ?_
    rintro e V1 ⟨rfl, q⟩
    replace EX := EX.trans q
    replace EZ := EZ.trans q
    replace KX := KX.ext q
    replace OX := OX.ext q
    refine hK.out _ _ trivial ?_
    clear hK K q
    intro hS
    (try simp only [Act.put, List.getElem_toArray, List.getElem_cons_succ, List.getElem_cons_zero, List.setIfInBounds_toArray, List.set_cons_zero, List.set_cons_succ])
    (refine wpAnyH_take (i := 11) (v := ?_) rfl (by kernel_rfl) (by kernel_rfl) (by kernel_rfl) (fun _ _ _ h => h) (Or.inl ⟨by rfl, ?_⟩) (by assumption) ?_; rotate_left; focus (intro w hSw; (try dsimp only at hSw); go_simp; try with_reducible rfl); try simp only [Act.put, List.getElem_toArray, List.getElem_cons_succ, List.getElem_cons_zero, List.setIfInBounds_toArray, List.set_cons_zero, List.set_cons_succ])
    (refine wpAnyH_ready (rs := [14]) (by kernel_rfl) (by simp) ?_; refine AllReadyH.cons rfl (fun K hK => ?_) AllReadyH.nil)
    go_simp
    go_at_call 70
    refine (F10.out _ EX).mono ?_
    rintro e V1 ⟨rfl, q⟩
    replace EX := EX.trans q
    replace EZ := EZ.trans q
    replace KX := KX.ext q
    replace OX := OX.ext q
    refine hK.out _ _ trivial ?_
    clear hK K q
    intro hS
    (try simp only [Act.put, List.getElem_toArray, List.getElem_cons_succ, List.getElem_cons_zero, List.setIfInBounds_toArray, List.set_cons_zero, List.set_cons_succ])
    (refine wpAnyH_take (i := 15) (v := ?_) rfl (by kernel_rfl) (by kernel_rfl) (by kernel_rfl) (fun _ _ _ h => h) (Or.inl ⟨by rfl, ?_⟩) (by assumption) ?_; rotate_left; focus (intro w hSw; (try dsimp only at hSw); go_simp; try with_reducible rfl); try simp only [Act.put, List.getElem_toArray, List.getElem_cons_succ, List.getElem_cons_zero, List.setIfInBounds_toArray, List.set_cons_zero, List.set_cons_succ])
    (refine wpAnyH_ready (rs := [17]) (by kernel_rfl) (by simp) ?_; refine AllReadyH.cons rfl (fun K hK => ?_) AllReadyH.nil)
    rw [if_pos (by rfl)]
    refine wp_store_by _ _ _ rfl _ rfl (KX.sti 3 (Y4 * 65536 + Y6) (by simp [Sg.cells])) rfl ?_
    replace OX := OX.setFar (p := ⟨g, 3, none⟩) hvg (.int .i64 (Y4 * 65536 + Y6))
    replace EZ := EZ.set (p := ⟨g, 3, none⟩) hgl (.int .i64 (Y4 * 65536 + Y6))
    replace KX : Blk _ g 50 ((⟨6, Y0, Y2, Y4 * 65536 + Y6, 0, 0, 0⟩ : Sg).cells v) := KX.put 3 (.int .i64 (Y4 * 65536 + Y6))
    refine hK.out _ _ trivial ?_
    clear hK K
    intro hS
    clear EX
    generalize World.setCell _ ⟨g, 3, none⟩ _ = V2 at *
    (try simp only [Act.put, List.getElem_toArray, List.getElem_cons_succ, List.getElem_cons_zero, List.setIfInBounds_toArray, List.set_cons_zero, List.set_cons_succ])
    (refine wpAnyH_take (i := 18) (v := ?_) rfl (by kernel_rfl) (by kernel_rfl) (by kernel_rfl) (fun _ _ _ h => h) (Or.inl ⟨by rfl, ?_⟩) (by assumption) ?_; rotate_left; focus (intro w hSw; (try dsimp only at hSw); go_simp; try with_reducible rfl); try simp only [Act.put, List.getElem_toArray, List.getElem_cons_succ, List.getElem_cons_zero, List.setIfInBounds_toArray, List.set_cons_zero, List.set_cons_succ])
    (refine wpAnyH_ready (rs := [19]) (by kernel_rfl) (by simp) ?_; refine AllReadyH.cons rfl (fun K hK => ?_) AllReadyH.nil)
    rw [if_pos (by rfl)]
    refine wp_store_by _ _ _ rfl _ rfl (KX.sti 4 (Y8 * 65536 + Y10) (by simp [Sg.cells])) rfl ?_
    replace OX := OX.setFar (p := ⟨g, 4, none⟩) hvg (.int .i64 (Y8 * 65536 + Y10))
    replace EZ := EZ.set (p := ⟨g, 4, none⟩) hgl (.int .i64 (Y8 * 65536 + Y10))
    replace KX : Blk _ g 50 ((⟨6, Y0, Y2, Y4 * 65536 + Y6, Y8 * 65536 + Y10, 0, 0⟩ : Sg).cells v) := KX.put 4 (.int .i64 (Y8 * 65536 + Y10))
    refine hK.out _ _ trivial ?_
    clear hK K
    intro hS
    (try simp only [Act.put, List.getElem_toArray, List.getElem_cons_succ, List.getElem_cons_zero, List.setIfInBounds_toArray, List.set_cons_zero, List.set_cons_succ])
    refine wpAnyH_done (by kernel_rfl) ?_ _
    go_wp2_with fail
    go_meet
    exact ⟨EZ, KX, OX⟩
  obtain ⟨EG2, KG2, ov2⟩ := hcut
  clear KG ov EG EW
  have EW := E0.trans EG2
  go_upto_region 9 with (fail)
  go_cut [] (fun wy => Ext W0 wy ∧ Blk wy g 50 ((⟨6, Pl.at2 xs 0, Pl.at2 (xs.drop 2) 0, Pl.at2 (xs.drop 4) 0 * 65536 + Pl.at2 (xs.drop 6) 0, Pl.at2 (xs.drop 8) 0 * 65536 + Pl.at2 (xs.drop 10) 0, xs.getD 13 0 % 32, Pl.at2 (xs.drop 14) 0⟩ : Sg).cells v) ∧ Own wy W0.heap.size v (xs.drop 20))
  case first =>
    have EX := EW.drew
    have EZ := EG2.drew
    have KX : Blk wc.drew g _ _ := KG2.drew
    have OX : Own wc.drew W0.heap.size v (xs.drop 20) := ov2.ext (Ext.refl wc).drew
    have y13 := HB.out.getD 13
    have hcl := HCELL.out 13 (by omega)
    have hgb : g ≠ b := by have := E0.size; omega
    generalize Pl.at2 xs 0 = Y0 at *
    generalize Pl.at2 (xs.drop 2) 0 = Y2 at *
    generalize Pl.at2 (xs.drop 4) 0 * 65536 + Pl.at2 (xs.drop 6) 0 = Y4 at *
    generalize Pl.at2 (xs.drop 8) 0 * 65536 + Pl.at2 (xs.drop 10) 0 = Y8 at *
    generalize Pl.at2 (xs.drop 14) 0 = Y14 at *
    generalize xs.getD 13 0 = X13 at *
    have HC13 := Lib.hid (fun (W : World) (q : Ext w W) => (World.cell?_of_block (a := ⟨b, off + 13, none⟩) (Below.block q b hbl)).trans hcl)
    have a31 : bits .and .u8 X13 31 = X13 % 32 := bits_mask .u8 8 (by decide) (fun n h0 h1 => IntWalk.u8_in _ (by omega)) 5 (by decide) X13 y13.1 (by omega)
    have m31 : IntKind.i64.wrap (X13 % 32) = X13 % 32 := IntWalk.i64_in _ (by omega)
    have l13 : (13 : Int) < (n : Int) := by omega
    have hS0' := HC13.out _ EX
    clear hcl
    refine wp_region_held_drew (S := (fun w' => w'.cell? ⟨b, off + 13, none⟩ = some (.int .u8 X13))) (by kernel_rfl) hS0' (fun hS0 => ?_)
    generalize wc.drew = V0 at *
    (refine wpAnyH_take (i := 0) (v := ?_) rfl (by kernel_rfl) (by kernel_rfl) (by kernel_rfl) (fun _ _ _ h => h) (Or.inl ⟨by rfl, ?_⟩) (by assumption) ?_; rotate_left; focus (intro w hSw; (try dsimp only at hSw); go_simp; try with_reducible rfl); try simp only [Act.put, List.getElem_toArray, List.getElem_cons_succ, List.getElem_cons_zero, List.setIfInBounds_toArray, List.set_cons_zero, List.set_cons_succ])
    (refine wpAnyH_take (i := 1) (v := ?_) rfl (by kernel_rfl) (by kernel_rfl) (by kernel_rfl) (fun _ _ _ h => h) (Or.inl ⟨by rfl, ?_⟩) (by assumption) ?_; rotate_left; focus (intro w hSw; (try dsimp only at hSw); go_simp; try with_reducible rfl); try simp only [Act.put, List.getElem_toArray, List.getElem_cons_succ, List.getElem_cons_zero, List.setIfInBounds_toArray, List.set_cons_zero, List.set_cons_succ])
    (refine wpAnyH_take (i := 5) (v := ?_) rfl (by kernel_rfl) (by kernel_rfl) (by kernel_rfl) (fun _ _ _ h => h) (Or.inl ⟨by rfl, ?_⟩) (by assumption) ?_; rotate_left; focus (intro w hSw; (try dsimp only at hSw); go_simp; try with_reducible rfl); try simp only [Act.put, List.getElem_toArray, List.getElem_cons_succ, List.getElem_cons_zero, List.setIfInBounds_toArray, List.set_cons_zero, List.set_cons_succ])
    (refine wpAnyH_take (i := 6) (v := ?_) rfl (by kernel_rfl) (by kernel_rfl) (by kernel_rfl) (fun _ _ _ h => h) (Or.inl ⟨by rfl, ?_⟩) (by assumption) ?_; rotate_left; focus (intro w hSw; (try dsimp only at hSw); go_simp; try with_reducible rfl); try simp only [Act.put, List.getElem_toArray, List.getElem_cons_succ, List.getElem_cons_zero, List.setIfInBounds_toArray, List.set_cons_zero, List.set_cons_succ])
    (refine wpAnyH_take (i := 2) (v := ?_) rfl (by kernel_rfl) (by kernel_rfl) (by kernel_rfl) (fun _ _ _ h => h) (Or.inl ⟨by rfl, ?_⟩) (by assumption) ?_; rotate_left; focus (intro w hSw; (try dsimp only at hSw); go_simp; try with_reducible rfl); try simp only [Act.put, List.getElem_toArray, List.getElem_cons_succ, List.getElem_cons_zero, List.setIfInBounds_toArray, List.set_cons_zero, List.set_cons_succ])
    (refine wpAnyH_take (i := 3) (v := ?_) rfl (by kernel_rfl) (by kernel_rfl) (by kernel_rfl) (fun _ _ _ h => h) (Or.inl ⟨by rfl, ?_⟩) (by assumption) ?_; rotate_left; focus (intro w hSw; (try dsimp only at hSw); go_simp; try with_reducible rfl); try simp only [Act.put, List.getElem_toArray, List.getElem_cons_succ, List.getElem_cons_zero, List.setIfInBounds_toArray, List.set_cons_zero, List.set_cons_succ])
    (refine wpAnyH_take (i := 4) (v := ?_) rfl (by kernel_rfl) (by kernel_rfl) (by kernel_rfl) (fun _ _ _ h => h) (Or.inl ⟨by rfl, ?_⟩) (by assumption) ?_; rotate_left; focus (intro w hSw; (try dsimp only at hSw); go_simp; try with_reducible rfl); try simp only [Act.put, List.getElem_toArray, List.getElem_cons_succ, List.getElem_cons_zero, List.setIfInBounds_toArray, List.set_cons_zero, List.set_cons_succ])
    (refine wpAnyH_take (i := 8) (v := ?_) rfl (by kernel_rfl) (by kernel_rfl) (by kernel_rfl) (fun _ _ _ h => h) (Or.inl ⟨by rfl, ?_⟩) (by assumption) ?_; rotate_left; focus (intro w hSw; (try dsimp only at hSw); go_simp; try with_reducible rfl); try simp only [Act.put, List.getElem_toArray, List.getElem_cons_succ, List.getElem_cons_zero, List.setIfInBounds_toArray, List.set_cons_zero, List.set_cons_succ])
    (refine wpAnyH_ready (rs := [7]) (by kernel_rfl) (by simp) ?_; refine AllReadyH.cons rfl (fun K hK => ?_) AllReadyH.nil)
    go_simp
    go_at_call 70
    refine (F14.out _ EX).mono ?_
    rintro e V1 ⟨rfl, q⟩
    replace EX := EX.trans q
    replace EZ := EZ.trans q
    replace KX := KX.ext q
    replace OX := OX.ext q
    refine hK.out _ _ (HC13.out _ EX) ?_
    clear hK K q
    intro hS
    (try simp only [Act.put, List.getElem_toArray, List.getElem_cons_succ, List.getElem_cons_zero, List.setIfInBounds_toArray, List.set_cons_zero, List.set_cons_succ])
    (refine wpAnyH_ready (rs := [9]) (by kernel_rfl) (by simp) ?_; refine AllReadyH.cons rfl (fun K hK => ?_) AllReadyH.nil)
    rw [if_pos (by rfl)]
    refine wp_store_by _ _ _ rfl _ rfl (KX.sti 5 (X13 % 32) (by simp [Sg.cells])) rfl ?_
    replace OX := OX.setFar (p := ⟨g, 5, none⟩) hvg (.int .i64 (X13 % 32))
    replace EZ := EZ.set (p := ⟨g, 5, none⟩) hgl (.int .i64 (X13 % 32))
    replace EX := EX.set (p := ⟨g, 5, none⟩) (by have := E0.size; show w.heap.size ≤ g; omega) (.int .i64 (X13 % 32))
    replace KX : Blk _ g 50 ((⟨6, Y0, Y2, Y4, Y8, X13 % 32, 0⟩ : Sg).cells v) := KX.put 5 (.int .i64 (X13 % 32))
    refine hK.out _ _ (HC13.out _ EX) ?_
    clear hK K
    intro hS
    generalize World.setCell _ ⟨g, 5, none⟩ _ = V2 at *
    (try simp only [Act.put, List.getElem_toArray, List.getElem_cons_succ, List.getElem_cons_zero])
    (refine wpAnyH_take (i := 10) (v := ?_) rfl (by kernel_rfl) (by kernel_rfl) (by kernel_rfl) (fun _ _ _ h => h) (Or.inl ⟨by rfl, ?_⟩) (by assumption) ?_; rotate_left; focus (intro w hSw; (try dsimp only at hSw); go_simp; try with_reducible rfl); try simp only [Act.put, List.getElem_toArray, List.getElem_cons_succ, List.getElem_cons_zero, List.setIfInBounds_toArray, List.set_cons_zero, List.set_cons_succ])
    (refine wpAnyH_ready (rs := [11]) (by kernel_rfl) (by simp) ?_; refine AllReadyH.cons rfl (fun K hK => ?_) AllReadyH.nil)
    rw [if_pos (by rfl)]
    refine wp_store_by _ _ _ rfl _ rfl (KX.sti 6 Y14 (by simp [Sg.cells])) rfl ?_
    replace OX := OX.setFar (p := ⟨g, 6, none⟩) hvg (.int .i64 Y14)
    replace EZ := EZ.set (p := ⟨g, 6, none⟩) hgl (.int .i64 Y14)
    replace EX := EX.set (p := ⟨g, 6, none⟩) (by have := E0.size; show w.heap.size ≤ g; omega) (.int .i64 Y14)
    replace KX : Blk _ g 50 ((⟨6, Y0, Y2, Y4, Y8, X13 % 32, Y14⟩ : Sg).cells v) := KX.put 6 (.int .i64 Y14)
    refine hK.out _ _ (HC13.out _ EX) ?_
    clear hK K
    intro hS
    (try simp only [Act.put, List.getElem_toArray, List.getElem_cons_succ, List.getElem_cons_zero, List.setIfInBounds_toArray, List.set_cons_zero, List.set_cons_succ])
    refine wpAnyH_done (by kernel_rfl) ?_ _
    go_wp2_with fail
    go_meet
    exact ⟨EZ, KX, OX⟩
  obtain ⟨EG, KG, ov⟩ := hcut
  clear EW KG2 ov2 EG2
  have EW := E0.trans EG
  have KW := KR.ext EG
  have hvw : ∀ k, v.ownBlock = some k → k ≠ w.heap.size := fun k hk => by have := (ov.lt k hk).1; have := KR.lt; omega
  have hd : (⟨6, Pl.at2 xs 0, Pl.at2 (xs.drop 2) 0, Pl.at2 (xs.drop 4) 0 * 65536 + Pl.at2 (xs.drop 6) 0, Pl.at2 (xs.drop 8) 0 * 65536 + Pl.at2 (xs.drop 10) 0, xs.getD 13 0 % 32, Pl.at2 (xs.drop 14) 0⟩ : Sg) = Pl.decSeg 6 xs := by
    simp only [Pl.at2_drop]
    rfl
  rw [hd] at KG
  have ow := ov.mono E0.size
  generalize W0.heap.size = Z0 at *
  clear hd E0 EG KR F0 F2 FC F4 F6 F8 F10 F14 hvg ov
  obtain ⟨av, nv, cv, rfl, _, rv⟩ := ow.read
  have hnv : nv = n - 20 := by have h1 := rv.len; have h2 := HL.out; rw [List.length_drop] at h1; omega
  have hok : Pl.SegOk (Pl.decSeg 6 xs) nv := Pl.decSeg_ok (by decide) HB.out (by omega)
  have ld := KG.seg
  clear hnv
  go_wp2_with ((apply load_by rfl _ _ rfl _ rfl); (focus (with_reducible assumption)))
  refine (sencode_any (Pl.decSeg 6 xs) av nv cv (xs.drop 20) over wc hok rv (HB.out.drop 20) HO.out).mono ?_
  rintro e W2 ⟨v2, rfl, o2, q2⟩
  have E2 := EW.trans q2
  have KG2 := KG.ext q2
  have KW2 := KW.ext q2
  have ow2 := ow.ext q2
  have i2 := HR.out.ext E2
  have hok' : Pl.SegOk (Pl.decSeg 6 xs) (xs.drop 20).length := by rw [rv.len]; exact hok
  have hI : Pl.IsB (Pl.segBytes (Pl.decSeg 6 xs) (Pl.segCheck (Pl.decSeg 6 xs) over (xs.drop 20)) (xs.drop 20)) := Pl.segBytes_isB hok' (Pl.segCheck_bd _ _ _) (HB.out.drop _)
  have hlen := Pl.segBytes_length (s := Pl.decSeg 6 xs) (c := Pl.segCheck (Pl.decSeg 6 xs) over (xs.drop 20)) (xs := xs.drop 20) (by rw [Pl.decSeg_kind]; decide)
  rw [Pl.decSeg_kind, show Pl.segSize 6 = 20 from rfl, List.length_drop, HL.out] at hlen
  have HYES := Lib.hid (Pl.segQ_yes (k := 6) (xs := xs) (over := over) (by decide) HO.out HB.out (by rw [HL.out]; exact ⟨h0, h1⟩))
  have HSUM := Lib.hid (Pl.segQ_sum (k := 6) (xs := xs) (over := over) (by decide) HO.out HB.out (by rw [HL.out]; exact ⟨h0, h1⟩))
  have HSYN := Lib.hid (Pl.segQ_syn (k := 6) (xs := xs) (over := over) (by decide) HO.out HB.out (by rw [HL.out]; exact ⟨h0, h1⟩))
  rw [show Pl.segSize 6 = 20 from rfl] at HYES HSUM HSYN
  have hwl := q2.size
  have hww := KW.lt
  obtain ⟨EN, hEN⟩ : ∃ EN, Pl.segBytes (Pl.decSeg 6 xs) (Pl.segCheck (Pl.decSeg 6 xs) over (xs.drop 20)) (xs.drop 20) = EN := ⟨_, rfl⟩
  rw [hEN] at hI hlen HYES HSUM HSYN o2
  have HI := Lib.hid hI
  have HLEN := Lib.hid hlen
  have HOW2 := Lib.hid ow2
  have HOV := Lib.hid hvw
  clear hEN hI hlen ld KG KW ow EW q2 rv hok hok' ow2 hvw
  by_cases hE : EN = xs
  · obtain ⟨a2, n2, c2, rfl, hc2, r2⟩ := o2.read
    have HQ := Lib.hid (HYES.out hE)
    rw [hE] at r2
    clear hE
    go_wp2_with fail
    refine (equal_yes _ _ _ _ _ _ xs W2 r2 i2).mono ?_
    rintro e w' ⟨rfl, rfl⟩
    have ld := KG2.seg
    have s2 := sto KW2 (Pl.decSeg 6 xs) av nv cv
    go_wp2_with (first | ((apply load_by rfl _ _ rfl _ rfl); (focus (with_reducible assumption))) | ((apply store_by rfl _ _ _ rfl _ rfl); (focus (with_reducible assumption)); (focus rfl)))
    refine bodyPost_ret (results_cell2 Tryd.results34 _ _ w.heap.size 50 ((Pl.decSeg 6 xs).cells (.slice av nv cv)) _ rfl (KW2.row _) Tryd.underlying50 rfl Tryd.sizeSeg) rfl ?_
    refine ⟨.slice av nv cv, ?_, ?_, E2.row (Nat.le_refl _) _⟩
    · unfold Pl.segV
      rw [HQ.out, if_pos rfl]
      rfl
    · unfold Pl.segD
      rw [HQ.out, if_pos rfl]
      exact HOW2.out.rowOff HOV.out _
  have HE := Lib.hid hE
  clear hE
  obtain ⟨g5, n5, c5, rfl, hn5, hc5, hg5, hg5', _, _⟩ := o2.shape (by have := HLEN.out; omega)
  obtain ⟨_, _, _, hv2, _, r2⟩ := o2.read
  cases hv2
  go_wp2_with fail
  refine (equal_no _ _ _ _ _ _ _ xs W2 r2 i2 HI.out HB.out HE.out).mono ?_
  rintro e w' ⟨rfl, rfl⟩
  have k10 : (16 : Int) ≤ (n5 : Int) := by have := HLEN.out; omega
  have k12 : (18 : Int) ≤ (n5 : Int) := by have := HLEN.out; omega
  have k12' : (18 : Int) ≤ (c5 : Int) := by have := HLEN.out; omega
  have kc : ¬ c5 = 16 := by omega
  have kn : (18 : Int) ≤ (n : Int) := by omega
  have kcc : (18 : Int) ≤ (c : Int) := by omega
  have kc' : ¬ c = 16 := by omega
  have is5 := i2.sub 16 18 (by omega) (by omega)
  have HN5 := Lib.hid hn5
  clear hn5
  have kw : IntKind.i64.wrap 18 = 18 := IntWalk.i64_in _ (by omega)
  go_upto_region 13 with (fail)
  refine wp_region_held_drew (S := (fun _ => True)) (by kernel_rfl) trivial (fun hS0 => ?_)
  have is5' := is5.ext (Ext.refl W2).drew
  have o2' := o2.ext (Ext.refl W2).drew
  (refine wpAnyH_take (i := 0) (v := ?_) rfl (by kernel_rfl) (by kernel_rfl) (by kernel_rfl) (fun _ _ _ h => h) (Or.inl ⟨by rfl, ?_⟩) (by assumption) ?_; rotate_left; focus (intro w hSw; (try dsimp only at hSw); go_simp; try with_reducible rfl); try simp only [Act.put, List.getElem_toArray, List.getElem_cons_succ, List.getElem_cons_zero, List.setIfInBounds_toArray, List.set_cons_zero, List.set_cons_succ])
  (refine wpAnyH_take (i := 1) (v := ?_) rfl (by kernel_rfl) (by kernel_rfl) (by kernel_rfl) (fun _ _ _ h => h) (Or.inl ⟨by rfl, ?_⟩) (by assumption) ?_; rotate_left; focus (intro w hSw; (try dsimp only at hSw); go_simp; try with_reducible rfl); try simp only [Act.put, List.getElem_toArray, List.getElem_cons_succ, List.getElem_cons_zero, List.setIfInBounds_toArray, List.set_cons_zero, List.set_cons_succ])
  (refine wpAnyH_take (i := 2) (v := ?_) rfl (by kernel_rfl) (by kernel_rfl) (by kernel_rfl) (fun _ _ _ h => h) (Or.inl ⟨by rfl, ?_⟩) (by assumption) ?_; rotate_left; focus (intro w hSw; (try dsimp only at hSw); go_simp; try with_reducible rfl); try simp only [Act.put, List.getElem_toArray, List.getElem_cons_succ, List.getElem_cons_zero, List.setIfInBounds_toArray, List.set_cons_zero, List.set_cons_succ])
  (refine wpAnyH_take (i := 3) (v := ?_) rfl (by kernel_rfl) (by kernel_rfl) (by kernel_rfl) (fun _ _ _ h => h) (Or.inl ⟨by rfl, ?_⟩) (by assumption) ?_; rotate_left; focus (intro w hSw; (try dsimp only at hSw); go_simp; try with_reducible rfl); try simp only [Act.put, List.getElem_toArray, List.getElem_cons_succ, List.getElem_cons_zero, List.setIfInBounds_toArray, List.set_cons_zero, List.set_cons_succ])
  (refine wpAnyH_take (i := 4) (v := ?_) rfl (by kernel_rfl) (by kernel_rfl) (by kernel_rfl) (fun _ _ _ h => h) (Or.inl ⟨by rfl, ?_⟩) (by assumption) ?_; rotate_left; focus (intro w hSw; (try dsimp only at hSw); go_simp; try with_reducible rfl); try simp only [Act.put, List.getElem_toArray, List.getElem_cons_succ, List.getElem_cons_zero, List.setIfInBounds_toArray, List.set_cons_zero, List.set_cons_succ])
  (refine wpAnyH_take (i := 5) (v := ?_) rfl (by kernel_rfl) (by kernel_rfl) (by kernel_rfl) (fun _ _ _ h => h) (Or.inl ⟨by rfl, ?_⟩) (by assumption) ?_; rotate_left; focus (intro w hSw; (try dsimp only at hSw); go_simp; try with_reducible rfl); try simp only [Act.put, List.getElem_toArray, List.getElem_cons_succ, List.getElem_cons_zero, List.setIfInBounds_toArray, List.set_cons_zero, List.set_cons_succ])
  (refine wpAnyH_take (i := 6) (v := ?_) rfl (by kernel_rfl) (by kernel_rfl) (by kernel_rfl) (fun _ _ _ h => h) (Or.inl ⟨by rfl, ?_⟩) (by assumption) ?_; rotate_left; focus (intro w hSw; (try dsimp only at hSw); go_simp; try with_reducible rfl); try simp only [Act.put, List.getElem_toArray, List.getElem_cons_succ, List.getElem_cons_zero, List.setIfInBounds_toArray, List.set_cons_zero, List.set_cons_succ])
  (refine wpAnyH_take (i := 7) (v := ?_) rfl (by kernel_rfl) (by kernel_rfl) (by kernel_rfl) (fun _ _ _ h => h) (Or.inl ⟨by rfl, ?_⟩) (by assumption) ?_; rotate_left; focus (intro w hSw; (try dsimp only at hSw); go_simp; try with_reducible rfl); try simp only [Act.put, List.getElem_toArray, List.getElem_cons_succ, List.getElem_cons_zero, List.setIfInBounds_toArray, List.set_cons_zero, List.set_cons_succ])
  (refine wpAnyH_take (i := 8) (v := ?_) rfl (by kernel_rfl) (by kernel_rfl) (by kernel_rfl) (fun _ _ _ h => h) (Or.inl ⟨by rfl, ?_⟩) (by assumption) ?_; rotate_left; focus (intro w hSw; (try dsimp only at hSw); go_simp; try with_reducible rfl); try simp only [Act.put, List.getElem_toArray, List.getElem_cons_succ, List.getElem_cons_zero, List.setIfInBounds_toArray, List.set_cons_zero, List.set_cons_succ])
  (refine wpAnyH_take (i := 9) (v := ?_) rfl (by kernel_rfl) (by kernel_rfl) (by kernel_rfl) (fun _ _ _ h => h) (Or.inl ⟨by rfl, ?_⟩) (by assumption) ?_; rotate_left; focus (intro w hSw; (try dsimp only at hSw); go_simp; try with_reducible rfl); try simp only [Act.put, List.getElem_toArray, List.getElem_cons_succ, List.getElem_cons_zero, List.setIfInBounds_toArray, List.set_cons_zero, List.set_cons_succ])
  (try simp only [Act.put, List.getElem_toArray, List.getElem_cons_succ, List.getElem_cons_zero, List.setIfInBounds_toArray, List.set_cons_zero, List.set_cons_succ])
  (refine wpAnyH_ready (rs := [10]) (by kernel_rfl) (by simp) ?_; refine AllReadyH.cons rfl (fun K hK => ?_) AllReadyH.nil)
  (try simp only [Act.put, List.getElem_toArray, List.getElem_cons_succ, List.getElem_cons_zero, List.setIfInBounds_toArray, List.set_cons_zero, List.set_cons_succ])
  rw [if_pos (by rfl)]
  apply wp_copy (d := Operand.tmp 92) (s := Operand.tmp 97) (hown := o2') (hr := is5') (lo := 16)
  case hgd => rfl
  case ho => rfl
  case hd => rfl
  case hs => rfl
  case hlo => omega
  intro W6 o6 b6
  refine hK.out _ _ trivial ?_
  clear hK K
  intro hS
  (try simp only [Act.put, List.setIfInBounds_toArray, List.set_cons_zero, List.set_cons_succ])
  refine wpAnyH_done (by kernel_rfl) ?_ _
  have E6 : Ext w W6 := Below.trans (Ext.drew E2) (Below.mono b6 (Nat.le_of_lt hww))
  have KW6 : Blk W6 w.heap.size 50 #[.int .i64 0, .int .i64 0, .int .i64 0, .int .i64 0, .int .i64 0, .int .i64 0, .int .i64 0, .slice none 0 0] := Blk.below (Blk.drew KW2) b6 hww
  have i6 := HR.out.ext E6
  have hP : EN.take 16 ++ ((xs.drop 16).take 2 ++ EN.drop (16 + 2)) = Pl.patchS 6 EN xs := by unfold Pl.patchS; rw [show Pl.segAt 6 = 16 from rfl]
  rw [hP] at o6
  have hI6 : Pl.IsB (Pl.patchS 6 EN xs) := (HI.out.take _).append (((HB.out.drop _).take 2).append (HI.out.drop _))
  have HI6 := Lib.hid hI6
  have HSM := Lib.hid (HSUM.out HE.out)
  clear hP hI6 is5 is5' o2' KG2 KW2 o2 r2 i2 kw k10 k12 k12' kc kn kcc kc' b6
  obtain ⟨_, _, _, hv6, _, r6⟩ := o6.read
  cases hv6
  have s6 := sto KW6 ⟨0, 0, 0, 0, 0, 0, 0⟩ none 0 0
  by_cases hQ : Pl.patchS 6 EN xs = xs
  · have HQ := Lib.hid (HSM.out hQ)
    rw [hQ] at r6
    clear hQ
    go_wp2_with fail
    refine (equal_yes _ _ _ _ _ _ xs W6 r6 i6).mono ?_
    rintro e w' ⟨rfl, rfl⟩
    go_wp2_with ((apply store_by rfl _ _ _ rfl _ rfl); (focus (with_reducible assumption)); (focus rfl))
    refine bodyPost_ret (results_cell2 Tryd.results34 _ _ w.heap.size 50 #[.int .i64 0, .int .i64 0, .int .i64 0, .int .i64 0, .int .i64 0, .int .i64 0, .int .i64 0, .slice none 0 0] _ rfl (KW6.row _) Tryd.underlying50 rfl Tryd.sizeSeg) rfl (decGot_bad HQ.out (by decide) (E6.row (Nat.le_refl _) _))
  · have HQ := Lib.hid (HSYN.out hQ)
    have HN := Lib.hid hQ
    clear hQ
    go_wp2_with fail
    refine (equal_no _ _ _ _ _ _ _ xs W6 r6 i6 HI6.out HB.out HN.out).mono ?_
    rintro e w' ⟨rfl, rfl⟩
    go_wp2_with ((apply store_by rfl _ _ _ rfl _ rfl); (focus (with_reducible assumption)); (focus rfl))
    refine bodyPost_ret (results_cell2 Tryd.results34 _ _ w.heap.size 50 #[.int .i64 0, .int .i64 0, .int .i64 0, .int .i64 0, .int .i64 0, .int .i64 0, .int .i64 0, .slice none 0 0] _ rfl (KW6.row _) Tryd.underlying50 rfl Tryd.sizeSeg) rfl (decGot_bad HQ.out (by decide) (E6.row (Nat.le_refl _) _))
end Go.Proofs.YtkjchddidpjjmaaDoor
/- The document's answers of layer 1: Word, Fold, SumOf. Conditions: as each theorem states them. -/
namespace Go.Proofs.YtkjchddidpjjmaaDoor
open Go.RowKit
/-- Is a number one of 16 bits? -/
def w16 (n : Int) : Bool := decide (0 ≤ n) && decide (n ≤ 65535)
theorem w16_yes {n : Int} (h : w16 n = true) : 0 ≤ n ∧ n ≤ 65535 := by unfold w16 at h; simpa using h
theorem w16_no {n : Int} (h : w16 n = false) : decide (0 ≤ n ∧ n ≤ 65535) = false := by
  unfold w16 at h
  by_cases h0 : 0 ≤ n <;> by_cases h1 : n ≤ 65535 <;> simp_all
theorem word_any (n : Int) (w : World) : Calls Tryd.prog 29 #[.int .i64 n] w fun e w' => e = .returned (.bool (w16 n)) ∧ w = w' := by
  by_cases h0 : 0 ≤ n
  · by_cases h1 : n ≤ 65535
    · have hw : w16 n = true := by unfold w16; simp [h0, h1]
      rw [hw]
      clear hw
      go_enter Tryd.func29, Tryd.ntmps29
      go_wp2
      go_ret
      exact ⟨rfl, rfl⟩
    · have hw : w16 n = false := by unfold w16; simp [h0, h1]
      rw [hw]
      clear hw
      go_enter Tryd.func29, Tryd.ntmps29
      go_wp2
      go_ret
      exact ⟨rfl, rfl⟩
  · have hw : w16 n = false := by unfold w16; simp [h0]
    rw [hw]
    clear hw
    go_enter Tryd.func29, Tryd.ntmps29
    go_wp2
    go_ret
    exact ⟨rfl, rfl⟩
theorem rfold_any (n : Int) (w : World) (h0 : 0 ≤ n) (h1 : n < 4611686018427387904) : Calls Tryd.prog 65 #[.int .i64 n] w fun e w' => e = .returned (.int .i64 (Pl.fold n)) ∧ w = w' := by
  by_cases hn : n = 0
  · subst hn
    go_enter Tryd.func65, Tryd.ntmps65
    go_wp2
    go_ret
    exact ⟨rfl, rfl⟩
  · have hz : (n == 0) = false := by simpa using hn
    have hf : Pl.fold n = (n - 1) % 65535 + 1 := by unfold Pl.fold; rw [if_neg hn]
    have e1 : IntKind.i64.wrap (n - 1) = n - 1 := IntWalk.i64_in _ (by omega)
    have e2 : IntKind.i64.wrap ((n - 1).tmod 65535) = (n - 1) % 65535 := by rw [Int.tmod_eq_emod_of_nonneg (by omega)]; exact IntWalk.i64_in _ (by omega)
    have e3 : IntKind.i64.wrap ((n - 1) % 65535 + 1) = (n - 1) % 65535 + 1 := IntWalk.i64_in _ (by omega)
    rw [hf]
    clear hf
    go_enter Tryd.func65, Tryd.ntmps65
    go_wp2
    go_ret
    exact ⟨rfl, rfl⟩

set_option maxHeartbeats 1000000 in
theorem sumOf_any (a : Option Addr) (n c : Nat) (xs : List Int) (w : World) (hx : Ints .u8 w a n xs) (hb : Pl.IsB xs) (hn : n ≤ 65536) :
    Calls Tryd.prog 66 #[.slice a n c] w fun e w' => e = .returned (.int .i64 (Pl.fold (Pl.raw 0 xs))) ∧ w = w' := by
  have HX := Lib.hid hx
  have hl := hx.len
  have HL := Lib.hid hl
  have hbd := Pl.raw_bd hb 0
  clear hx hl
  go_enter Tryd.func66, Tryd.ntmps66
  go_wp2_with fail
  go_loopw [3, 4] (fun s i wr => w = wr ∧ ∃ k : Nat, (2 * k ≤ n + 1) ∧ i = .int .i64 ((2 * k : Nat) : Int) ∧ s = .int .i64 (Pl.raw 0 (xs.take (2 * k)))) (fun _ i _ => n + 1 - (intOf i).toNat)
  case atStart => exact ⟨rfl, 0, by omega, rfl, rfl⟩
  case round =>
    obtain ⟨rfl, k, hk, rfl, rfl⟩ := hrel
    obtain ⟨m, hm⟩ : ∃ m, m = 2 * k := ⟨_, rfl⟩
    have hm2 : m % 2 = 0 := by omega
    rw [← hm] at hk ⊢
    have HM := Lib.hid hm
    clear hm
    have hB := Pl.raw_bd (hb.take m) 0
    have hkl : (xs.take m).length ≤ m := List.length_take_le _ _
    by_cases hlt : m < n
    · obtain ⟨b, off, rfl, hbl, hc⟩ := HX.out.at (by omega)
      have hsn := Pl.raw_snoc (xs.take m) (xs.getD m 0)
      rw [← take_snoc xs m (by rw [HL.out]; exact hlt), List.length_take_of_le (by rw [HL.out]; omega), if_pos hm2] at hsn
      have hbx := hb.getD m
      have hcell := hc m hlt
      have hlt' : (m : Int) < (n : Int) := by omega
      have hm1 : IntKind.i64.wrap ((m : Int) + 1) = (m : Int) + 1 := IntWalk.i64_in _ (by omega)
      have hm3 : IntKind.i64.wrap ((m : Int) + 2) = (m : Int) + 2 := IntWalk.i64_in _ (by omega)
      by_cases hlt2 : m + 1 < n
      · have hsn2 := Pl.raw_snoc (xs.take (m + 1)) (xs.getD (m + 1) 0)
        rw [← take_snoc xs (m + 1) (by rw [HL.out]; exact hlt2), List.length_take_of_le (by rw [HL.out]; omega), if_neg (by omega)] at hsn2
        have hbx2 := hb.getD (m + 1)
        have hcell2 : w.cell? ⟨b, off + (m + 1), none⟩ = _ := hc (m + 1) hlt2
        rw [hsn] at hsn2
        have ht : xs.take (2 * (k + 1)) = xs.take (m + 1 + 1) := by rw [HM.out]; rfl
        have HT := Lib.hid (show Pl.raw 0 (xs.take (2 * (k + 1))) = Pl.raw 0 (xs.take m) + 256 * xs.getD m 0 + xs.getD (m + 1) 0 by rw [ht]; exact hsn2)
        generalize xs.getD m 0 = x at *
        generalize xs.getD (m + 1) 0 = y at *
        generalize Pl.raw 0 (xs.take m) = s at *
        have hlt2' : (m : Int) + 1 < (n : Int) := by omega
        have en : ((m : Int) + 1).toNat = m + 1 := by omega
        have e1 : IntKind.i64.wrap (256 * x) = 256 * x := IntWalk.i64_in _ (by omega)
        have e2 : IntKind.i64.wrap (s + 256 * x) = s + 256 * x := IntWalk.i64_in _ (by omega)
        have e3 : IntKind.i64.wrap (s + 256 * x + y) = s + 256 * x + y := IntWalk.i64_in _ (by omega)
        have HC := Lib.hid hc
        clear hsn hsn2 hc hbd ht
        go_wp2_with fail
        go_roundw
        case rel => exact ⟨trivial, k + 1, by have := HM.out; omega, by rw [show 2 * (k + 1) = m + 2 by have := HM.out; omega]; simp, by rw [HT.out]⟩
        case measure => simp [intOf] <;> omega
      · have ht : xs.take (2 * (k + 1)) = xs.take (m + 1) := by rw [List.take_of_length_le (by have := HM.out; rw [HL.out]; omega), List.take_of_length_le (by rw [HL.out]; omega)]
        have HT := Lib.hid (show Pl.raw 0 (xs.take (2 * (k + 1))) = Pl.raw 0 (xs.take m) + 256 * xs.getD m 0 by rw [ht]; exact hsn)
        generalize xs.getD m 0 = x at *
        generalize Pl.raw 0 (xs.take m) = s at *
        have hlt2' : ¬ (m : Int) + 1 < (n : Int) := by omega
        have e1 : IntKind.i64.wrap (256 * x) = 256 * x := IntWalk.i64_in _ (by omega)
        have e2 : IntKind.i64.wrap (s + 256 * x) = s + 256 * x := IntWalk.i64_in _ (by omega)
        clear hsn hc hbd ht
        go_wp2_with fail
        go_roundw
        case rel => exact ⟨trivial, k + 1, by have := HM.out; omega, by rw [show 2 * (k + 1) = m + 2 by have := HM.out; omega]; simp, by rw [HT.out]⟩
        case measure => simp [intOf] <;> omega
    · have hx : xs.take m = xs := List.take_of_length_le (by rw [HL.out]; omega)
      rw [hx] at hB ⊢
      have hlt' : ¬ (m : Int) < (n : Int) := by omega
      go_wp2_with fail
      refine (rfold_any _ w hbd.1 (by have := HL.out; omega)).mono ?_
      rintro e w' ⟨rfl, rfl⟩
      go_wp2_with fail
      go_ret
      exact ⟨rfl, rfl⟩
end Go.Proofs.YtkjchddidpjjmaaDoor
/- The document's answers of layer 1: isByte, IsFour, FourBytes, BytesOf, words, SixFault. Conditions: as each theorem states them. -/
namespace Go.Proofs.YtkjchddidpjjmaaDoor
open Go.RowKit
def w8 (n : Int) : Bool := decide (0 ≤ n) && decide (n ≤ 255)
theorem w8_yes {n : Int} (h : w8 n = true) : 0 ≤ n ∧ n ≤ 255 := by unfold w8 at h; simpa using h
theorem w8_no {n : Int} (h : w8 n = false) : ¬ (0 ≤ n ∧ n ≤ 255) := by unfold w8 at h; simp at h; omega
theorem isByte_any (n : Int) (w : World) : Calls Tryd.prog 94 #[.int .i64 n] w fun e w' => e = .returned (.bool (w8 n)) ∧ w = w' := by
  by_cases h0 : 0 ≤ n
  · by_cases h1 : n ≤ 255
    · have hw : w8 n = true := by unfold w8; simp [h0, h1]
      rw [hw]
      clear hw
      go_enter Tryd.func94, Tryd.ntmps94
      go_wp2
      go_ret
      exact ⟨rfl, rfl⟩
    · have hw : w8 n = false := by unfold w8; simp [h0, h1]
      rw [hw]
      clear hw
      go_enter Tryd.func94, Tryd.ntmps94
      go_wp2
      go_ret
      exact ⟨rfl, rfl⟩
  · have hw : w8 n = false := by unfold w8; simp [h0]
    rw [hw]
    clear hw
    go_enter Tryd.func94, Tryd.ntmps94
    go_wp2
    go_ret
    exact ⟨rfl, rfl⟩
def w32 (n : Int) : Bool := decide (0 ≤ n) && decide (n ≤ 4294967295)
theorem w32_yes {n : Int} (h : w32 n = true) : 0 ≤ n ∧ n < 4294967296 := by unfold w32 at h; simp at h; omega
theorem w32_no {n : Int} (h : w32 n = false) : ¬ (0 ≤ n ∧ n < 4294967296) := by unfold w32 at h; simp at h; omega
theorem isFour_any (n : Int) (w : World) : Calls Tryd.prog 12 #[.int .i64 n] w fun e w' => e = .returned (.bool (w32 n)) ∧ w = w' := by
  by_cases h0 : 0 ≤ n
  · by_cases h1 : n ≤ 4294967295
    · have hw : w32 n = true := by unfold w32; simp [h0, h1]
      rw [hw]
      clear hw
      go_enter Tryd.func12, Tryd.ntmps12
      go_wp2
      go_ret
      exact ⟨rfl, rfl⟩
    · have hw : w32 n = false := by unfold w32; simp [h0, h1]
      rw [hw]
      clear hw
      go_enter Tryd.func12, Tryd.ntmps12
      go_wp2
      go_ret
      exact ⟨rfl, rfl⟩
  · have hw : w32 n = false := by unfold w32; simp [h0]
    rw [hw]
    clear hw
    go_enter Tryd.func12, Tryd.ntmps12
    go_wp2
    go_ret
    exact ⟨rfl, rfl⟩
theorem is_any (n : Int) (w : World) : Calls Tryd.prog 53 #[.int .i64 n] w fun e w' => e = .returned (.bool (w32 n)) ∧ w = w' := by
  cases h : w32 n
  · exact is_no n w (w32_no h)
  · obtain ⟨h0, h1⟩ := w32_yes h
    exact is_yes n w h0 h1

theorem fourBytes_any (a : Int) (w : World) (h0 : 0 ≤ a) (h1 : a < 4294967296) :
    Calls Tryd.prog 51 #[.int .i64 a] w fun e w' => ∃ v, e = .returned v ∧ Own w' w.heap.size v (Pl.four a) ∧ Ext w w' := by
  have t1 : IntKind.i64.wrap (a.tdiv 16777216) = a / 16777216 := by rw [Int.tdiv_eq_ediv_of_nonneg h0]; exact IntWalk.i64_in _ (by omega)
  have t2 : IntKind.i64.wrap (a.tdiv 65536) = a / 65536 := by rw [Int.tdiv_eq_ediv_of_nonneg h0]; exact IntWalk.i64_in _ (by omega)
  have t3 : IntKind.i64.wrap (a.tdiv 256) = a / 256 := by rw [Int.tdiv_eq_ediv_of_nonneg h0]; exact IntWalk.i64_in _ (by omega)
  have t4 : IntKind.i64.wrap ((a / 65536).tmod 256) = a / 65536 % 256 := by rw [Int.tmod_eq_emod_of_nonneg (by omega)]; exact IntWalk.i64_in _ (by omega)
  have t5 : IntKind.i64.wrap ((a / 256).tmod 256) = a / 256 % 256 := by rw [Int.tmod_eq_emod_of_nonneg (by omega)]; exact IntWalk.i64_in _ (by omega)
  have t6 : IntKind.i64.wrap (a.tmod 256) = a % 256 := by rw [Int.tmod_eq_emod_of_nonneg (by omega)]; exact IntWalk.i64_in _ (by omega)
  have e1 : IntKind.u8.wrap (a / 16777216) = a / 16777216 := IntWalk.u8_in _ (by omega)
  have e2 : IntKind.u8.wrap (a / 65536 % 256) = a / 65536 % 256 := IntWalk.u8_in _ (by omega)
  have e3 : IntKind.u8.wrap (a / 256 % 256) = a / 256 % 256 := IntWalk.u8_in _ (by omega)
  have e4 : IntKind.u8.wrap (a % 256) = a % 256 := IntWalk.u8_in _ (by omega)
  go_enter Tryd.func51, Tryd.ntmps51
  go_wp2
  go_ret
  exact ⟨_, rfl, Own.built w _ _ _ 4 rfl rfl (Nat.le_refl _) (by simp [Pl.four]), by unfold Ext; go_grown⟩

/-- The fault of an address, as the document tells it. -/
def sixE (s : Six) : Int := if words s.l = true then 0 else 1
set_option maxHeartbeats 800000 in
theorem sixFault_any (s : Six) (w : World) :
    Calls Tryd.prog 15 #[s.v] w fun e w' => e = .returned (.int .i64 (sixE s)) ∧ Ext w w' := by
  unfold Six.v
  go_enter Tryd.func15, Tryd.ntmps15
  go_wp2_with fail
  have K0 := Blk.new w 23 s.cells
  go_loopw [3] (fun i wr => ∃ k : Nat, k ≤ 8 ∧ i = .int .i64 k ∧ Ext w wr ∧ Blk wr w.heap.size 23 s.cells ∧ words (s.l.take k) = true) (fun i _ => 8 - (intOf i).toNat)
  case atStart => exact ⟨0, Nat.zero_le _, rfl, (Ext.refl w).alloc _, K0, rfl⟩
  case round =>
    obtain ⟨k, hk, rfl, hE, hK, hw⟩ := hrel
    have HW := Lib.hid hw
    clear hw K0
    by_cases hlt : k < 8
    · have hc : wr.cell? ⟨w.heap.size, k, none⟩ = some (.int .i64 (s.l.getD k 0)) := (hK.cells k).trans (s.cells_at k hlt)
      have hsn := words_snoc (s.l.take k) (s.l.getD k 0)
      rw [← take_snoc s.l k hlt, HW.out, Bool.true_and] at hsn
      have hbad := words_bad s.l k hlt
      generalize s.l.getD k 0 = x at *
      have HS := Lib.hid hsn
      have HBAD := Lib.hid hbad
      have hkl : (k : Int) < 8 := by omega
      clear hsn hbad
      go_wp2_with fail
      refine (word_any x wr).mono ?_
      rintro e w' ⟨rfl, rfl⟩
      cases hx : w16 x
      · have HX := Lib.hid hx
        clear hx hc
        go_wp2_with fail
        go_ret
        refine ⟨?_, hE⟩
        have h0 : words s.l = false := HBAD.out (by have := w16_no HX.out; simpa using this)
        unfold sixE
        rw [h0]
        rfl
      · have HX := Lib.hid hx
        clear hx hc
        go_wp2_with fail
        go_roundw
        case rel => exact ⟨k + 1, by omega, by go_num, hE, hK, by rw [HS.out]; simp [w16_yes HX.out]⟩
        case measure => simp [intOf] <;> omega
    · have hrest : s.l.take k = s.l := List.take_of_length_le (by show 8 ≤ k; omega)
      rw [hrest] at HW
      have hkl : ¬ (k : Int) < 8 := by omega
      clear hrest
      go_wp2_with fail
      go_ret
      refine ⟨?_, hE⟩
      unfold sixE
      rw [HW.out]
      rfl
end Go.Proofs.YtkjchddidpjjmaaDoor
/- The document's answers of layer 1: words, BytesOf. Conditions: as each theorem states them. -/
namespace Go.Proofs.YtkjchddidpjjmaaDoor
open Go.RowKit

set_option maxRecDepth 100000 in
set_option maxHeartbeats 2000000 in
theorem rwords_any (B : Nat) (v : Value) (ys : List Int) (a : Option Addr) (n c : Nat) (l : List Int) (w : World) (ho : Own w B v ys) (hl : Ints .i64 w a n l) (hw : ∀ x ∈ l, 0 ≤ x ∧ x ≤ 65535) (hB : B ≤ w.heap.size)
    (hap : ∀ k, v.ownBlock = some k → ∀ p, a = some p → p.block ≠ k) (hn : ys.length + 2 * n ≤ 100000) :
    Calls Tryd.prog 64 #[v, .slice a n c] w fun e w' => ∃ v', e = .returned v' ∧ Own w' B v' (ys ++ Pl.two l) ∧ Below B w w' := by
  have HW := Lib.hid hw
  have HL := Lib.hid hl.len
  have HI := Lib.hid hl
  have HAP := Lib.hid hap
  clear hw hl hap
  go_enter Tryd.func64, Tryd.ntmps64
  go_wp2_with fail
  go_loopw [0, 5] (fun v i wr => ∃ k : Nat, k ≤ n ∧ i = .int .i64 k ∧ Own wr B v (ys ++ Pl.two (l.take k)) ∧ Below B w wr ∧ Ints .i64 wr a n l ∧ ∀ k, v.ownBlock = some k → ∀ p, a = some p → p.block ≠ k) (fun _ i _ => n - (intOf i).toNat)
  case atStart => exact ⟨0, Nat.zero_le _, rfl, by simpa [Pl.two] using ho, Below.refl _ _, HI.out, HAP.out⟩
  case round =>
    obtain ⟨k, hk, rfl, hv, hb, hi, hp⟩ := hrel
    have hsz := hb.size
    clear ho
    by_cases hlt : k < n
    · obtain ⟨b, off, rfl, hbl, hc⟩ := hi.at (by omega)
      have hcell := hc k hlt
      have hx := getD_all2 HW.out k
      have hsn := Pl.two_snoc (l.take k) (l.getD k 0)
      rw [← take_snoc l k (by rw [HL.out]; exact hlt)] at hsn
      generalize l.getD k 0 = x at *
      have hlen : (ys ++ Pl.two (l.take k)).length ≤ 100000 := by
        rw [List.length_append, Pl.two_length, List.length_take, HL.out]; omega
      have HLEN := Lib.hid hlen
      have HS := Lib.hid hsn
      have HV := Lib.hid hv
      have HII := Lib.hid hi
      have HP := Lib.hid hp
      have HBB := Lib.hid hb
      have hlt' : (k : Int) < (n : Int) := by omega
      obtain ⟨x0, x1⟩ := hx
      have t1 : IntKind.i64.wrap (x.tdiv 256) = x / 256 := by rw [Int.tdiv_eq_ediv_of_nonneg x0]; exact IntWalk.i64_in _ (by omega)
      have t2 : IntKind.i64.wrap (x.tmod 256) = x % 256 := by rw [Int.tmod_eq_emod_of_nonneg x0]; exact IntWalk.i64_in _ (by omega)
      have t3 : x.tmod 256 = x % 256 := Int.tmod_eq_emod_of_nonneg x0
      have t4 : x.tdiv 256 = x / 256 := Int.tdiv_eq_ediv_of_nonneg x0
      have t5 : IntKind.i64.wrap (x / 256) = x / 256 := IntWalk.i64_in _ (by omega)
      have t6 : IntKind.i64.wrap (x % 256) = x % 256 := IntWalk.i64_in _ (by omega)
      have e1 : IntKind.u8.wrap (x / 256) = x / 256 := IntWalk.u8_in _ (by omega)
      have e2 : IntKind.u8.wrap (x % 256) = x % 256 := IntWalk.u8_in _ (by omega)
      clear hc hsn hlen hv hi hp hb HI
      go_upto_region 4 with (fail)
      go_region_law (first | (refine step_appL rfl (Operand.tmp 12) (Operand.tmp 25) rfl B _ (ys ++ Pl.two (l.take k)) rfl (by first | exact HV.out.ext ((Ext.refl wr).alloc _) | exact HV.out.ext (((Ext.refl wr).alloc _).drew) | exact HV.out.ext (((Ext.refl wr).drew).alloc _)) _ 0 2 2 [x / 256, x % 256] rfl ?_ (by omega) (by have := HLEN.out; omega) ?_ ?_; go_must (first | exact ints_new wr _ _ _ _ _ rfl | exact (ints_new wr _ _ _ _ _ rfl).ext ((Ext.refl _).drew)); go_must (simp; omega); intro v' W' o' b' g' p'))
      all_goals
        rw [List.append_assoc, ← HS.out] at o'
        have hBw : B ≤ wr.heap.size := by omega
        have B' : Below B w W' := HBB.out.trans (by first | exact Below.trans (Below.alloc (Below.refl _ _) hBw _) b' | exact Below.trans (Below.drew (Below.alloc (Below.refl _ _) hBw _)) b')
        have hi' := Ints.keepBy (HII.out.ext (by first | exact (Ext.refl wr).alloc _ | exact ((Ext.refl wr).alloc _).drew)) g' (fun p hp he => HP.out p.block he.symm p hp rfl)
        have hp' : ∀ k, v'.ownBlock = some k → ∀ p, some (⟨b, off, none⟩ : Addr) = some p → p.block ≠ k := fun k hk p hp => by
          rcases p' k hk with h | h
          · exact HP.out k h p hp
          · cases hp
            simp at h
            show b ≠ k
            omega
        have HPP := Lib.hid hp'
        have HIO := Lib.hid hi'
        have HB' := Lib.hid B'
        clear hp' hi' B' g' p' b' hcell
        go_wp2_with fail
        go_roundw
        case rel => exact ⟨k + 1, by omega, by go_num, o', HB'.out, HIO.out, HPP.out⟩
        case measure => simp [intOf] <;> omega
    · have hrest : l.take k = l := List.take_of_length_le (by rw [HL.out]; omega)
      rw [hrest] at hv
      have hlt' : ¬ (k : Int) < (n : Int) := by omega
      clear hrest
      go_wp2_with fail
      go_ret
      exact ⟨_, rfl, hv, hb⟩
end Go.Proofs.YtkjchddidpjjmaaDoor
/- The document's answers of layer 1: BytesOf, OverOf. Conditions: as each theorem states them. -/
namespace Go.Proofs.YtkjchddidpjjmaaDoor
open Go.RowKit

set_option maxRecDepth 100000 in
set_option maxHeartbeats 2000000 in
theorem bytesOf_any (s : Six) (w : World) (h : s.Ok) :
    Calls Tryd.prog 46 #[s.v] w fun e w' => ∃ v, e = .returned v ∧ Own w' w.heap.size v (Pl.two s.l) ∧ Ext w w' := by
  have HO := Lib.hid h
  clear h
  unfold Six.v
  go_enter Tryd.func46, Tryd.ntmps46
  go_wp2_with fail
  have K0 := Blk.new w 23 s.cells
  go_loopw [3, 4] (fun v i wr => ∃ k : Nat, k ≤ 8 ∧ i = .int .i64 k ∧ Own wr (w.heap.size + 1) v (Pl.two (s.l.take k)) ∧ Blk wr w.heap.size 23 s.cells ∧ Ext w wr) (fun _ i _ => 8 - (intOf i).toNat)
  case atStart => exact ⟨0, Nat.zero_le _, rfl, Own.nil _ _, K0, (Ext.refl w).alloc _⟩
  case round =>
    obtain ⟨k, hk, rfl, ho, hK, hE⟩ := hrel
    clear K0
    have hsz := hE.size
    have hlt1 := hK.lt
    by_cases hlt : k < 8
    · have hcell : wr.cell? ⟨w.heap.size, k, none⟩ = some (.int .i64 (s.l.getD k 0)) := (hK.cells k).trans (s.cells_at k hlt)
      obtain ⟨x0, x1⟩ := HO.out.at k
      have hsn := Pl.two_snoc (s.l.take k) (s.l.getD k 0)
      rw [← take_snoc s.l k hlt] at hsn
      generalize s.l.getD k 0 = x at *
      have hlen : (Pl.two (s.l.take k)).length ≤ 100 := by
        have h1 := Pl.two_length (s.l.take k)
        have h2 : (s.l.take k).length ≤ k := List.length_take_le _ _
        omega
      have HLEN := Lib.hid hlen
      have HS := Lib.hid hsn
      have HV := Lib.hid ho
      have HE := Lib.hid hE
      have HK := Lib.hid hK
      have hlt' : (k : Int) < 8 := by omega
      have t1 : IntKind.i64.wrap (x.tdiv 256) = x / 256 := by rw [Int.tdiv_eq_ediv_of_nonneg x0]; exact IntWalk.i64_in _ (by omega)
      have t2 : IntKind.i64.wrap (x.tmod 256) = x % 256 := by rw [Int.tmod_eq_emod_of_nonneg x0]; exact IntWalk.i64_in _ (by omega)
      have t3 : x.tmod 256 = x % 256 := Int.tmod_eq_emod_of_nonneg x0
      have t4 : x.tdiv 256 = x / 256 := Int.tdiv_eq_ediv_of_nonneg x0
      have t5 : IntKind.i64.wrap (x / 256) = x / 256 := IntWalk.i64_in _ (by omega)
      have t6 : IntKind.i64.wrap (x % 256) = x % 256 := IntWalk.i64_in _ (by omega)
      have e1 : IntKind.u8.wrap (x / 256) = x / 256 := IntWalk.u8_in _ (by omega)
      have e2 : IntKind.u8.wrap (x % 256) = x % 256 := IntWalk.u8_in _ (by omega)
      have hB1 : w.heap.size + 1 ≤ wr.heap.size := by omega
      clear hsn hlen ho hE hK
      go_upto_region 5 with (fail)
      go_region_law (first | (refine step_app rfl (Operand.tmp 9) (Operand.tmp 20) rfl (w.heap.size + 1) _ (Pl.two (s.l.take k)) rfl (by first | exact HV.out.ext ((Ext.refl wr).alloc _) | exact HV.out.ext (((Ext.refl wr).alloc _).drew)) _ 2 2 [x / 256, x % 256] rfl ?_ (by have := HLEN.out; omega) ?_ ?_; go_must (first | exact ints_new wr _ _ _ _ _ rfl | exact (ints_new wr _ _ _ _ _ rfl).ext ((Ext.refl _).drew)); go_must (simp; omega); intro v' W' o' b'))
      all_goals
        rw [← HS.out] at o'
        have B1 : Below (w.heap.size + 1) wr W' := by first | exact Below.trans (Below.alloc (Below.refl _ _) hB1 _) b' | exact Below.trans (Below.drew (Below.alloc (Below.refl _ _) hB1 _)) b'
        have K' := HK.out.below B1 (by omega)
        have E' : Ext w W' := Below.trans HE.out (Below.mono B1 (by omega))
        have HB' := Lib.hid E'
        have HK' := Lib.hid K'
        clear E' K' B1 b' hcell
        go_wp2_with fail
        go_roundw
        case rel => exact ⟨k + 1, by omega, by go_num, o', HK'.out, HB'.out⟩
        case measure => simp [intOf] <;> omega
    · have hrest : s.l.take k = s.l := List.take_of_length_le (by show 8 ≤ k; omega)
      rw [hrest] at ho
      have hlt' : ¬ (k : Int) < 8 := by omega
      clear hrest
      go_wp2_with fail
      go_ret
      exact ⟨_, rfl, ho.mono (by omega), hE⟩

/-- What stands over a segment, as bytes: may it be asked? -/
def okO (k n : Int) : Bool := w8 k && (decide (0 ≤ n) && decide (n ≤ 320))
theorem okO_yes {k n : Int} (h : okO k n = true) : (0 ≤ k ∧ k ≤ 255) ∧ (0 ≤ n ∧ n ≤ 320) := by
  unfold okO at h
  simp only [Bool.and_eq_true, decide_eq_true_eq] at h
  exact ⟨w8_yes h.1, h.2⟩
def bO (b : Bool) (v : Int) : Int := if b then v else 0
def eO (b : Bool) : Int := if b then 0 else 1

set_option maxRecDepth 100000 in
set_option maxHeartbeats 2000000 in
theorem overOf_any (a1 : Option Addr) (n1 c1 : Nat) (x1 : List Int) (a2 : Option Addr) (n2 c2 : Nat) (x2 : List Int) (k n : Int) (w : World) (h1 : Ints .u8 w a1 n1 x1) (h2 : Ints .u8 w a2 n2 x2) (b1 : Pl.IsB x1) (b2 : Pl.IsB x2) (hn : n1 + n2 ≤ 100) :
    Calls Tryd.prog 104 #[.slice a1 n1 c1, .slice a2 n2 c2, .int .i64 k, .int .i64 n] w fun e w' =>
      e = .returned (.tuple #[.int .i64 (bO (okO k n) (Pl.fold (Pl.raw 0 (x1 ++ x2 ++ Pl.two [k, n])))), .int .i64 (eO (okO k n))]) ∧ Ext w w' := by
  have H1 := Lib.hid h1
  have H2 := Lib.hid h2
  have HB1 := Lib.hid b1
  have HB2 := Lib.hid b2
  clear h1 h2 b1 b2
  cases hk : w8 k
  case false =>
    have ho : okO k n = false := by unfold okO; rw [hk]; rfl
    rw [ho]
    have HK := Lib.hid hk
    clear hk ho
    go_enter Tryd.func104, Tryd.ntmps104
    go_wp2_with fail
    refine (isByte_any k w).mono ?_
    rintro e w' ⟨rfl, rfl⟩
    rw [HK.out]
    go_wp2_with fail
    go_ret2
    exact ⟨rfl, Ext.refl _⟩
  case true =>
    obtain ⟨k0, k1⟩ := w8_yes hk
    have HK := Lib.hid hk
    by_cases g0 : 0 ≤ n
    case neg =>
      have ho : okO k n = false := by unfold okO; simp [g0]
      rw [ho]
      clear hk ho
      go_enter Tryd.func104, Tryd.ntmps104
      go_wp2_with fail
      refine (isByte_any k w).mono ?_
      rintro e w' ⟨rfl, rfl⟩
      rw [HK.out]
      go_wp2_with fail
      go_ret2
      exact ⟨rfl, Ext.refl _⟩
    by_cases g1 : n ≤ 320
    case neg =>
      have ho : okO k n = false := by unfold okO; simp [g1]
      rw [ho]
      clear hk ho
      go_enter Tryd.func104, Tryd.ntmps104
      go_wp2_with fail
      refine (isByte_any k w).mono ?_
      rintro e w' ⟨rfl, rfl⟩
      rw [HK.out]
      go_wp2_with fail
      go_ret2
      exact ⟨rfl, Ext.refl _⟩
    have ho : okO k n = true := by unfold okO; rw [hk]; simp [g0, g1]
    rw [ho]
    clear hk ho
    go_enter Tryd.func104, Tryd.ntmps104
    go_wp2_with fail
    refine (isByte_any k w).mono ?_
    rintro e w' ⟨rfl, rfl⟩
    rw [HK.out]
    go_wp2_with (at_builtin; refine Halt.out ?_)
    refine Halt.mk ?_
    refine app rfl _ _ rfl w.heap.size _ [] rfl (Own.nil _ _) a1 n1 c1 x1 rfl H1.out (by simp; omega) (Nat.le_refl _) ?_
    intro v1 W1 o1 q1
    rw [List.nil_append] at o1
    have E1 : Ext w W1 := q1
    go_wp2_with (at_builtin; refine Halt.out ?_)
    refine Halt.mk ?_
    refine app rfl _ _ rfl w.heap.size v1 x1 rfl o1 a2 n2 c2 x2 rfl (H2.out.ext E1) (by rw [H1.out.len]; omega) E1.size ?_
    intro v2 W2 o2 q2
    have E2 : Ext w W2 := Below.trans E1 q2
    clear o1 q1 q2 E1
    go_wp2_with fail
    have hlt2 := o2.lt
    refine (rwords_any w.heap.size v2 (x1 ++ x2) (some ⟨W2.heap.size, 0, none⟩) 2 2 [k, n] _ (o2.ext ((Ext.refl W2).alloc _)) (ints_new W2 _ _ _ _ _ rfl) (fun x hx => by simp only [List.mem_cons, List.not_mem_nil, or_false] at hx; rcases hx with rfl | rfl <;> omega) (by have := E2.size; simp; omega)
      (fun j hj p hp => by cases hp; have := (hlt2 j hj).2; show W2.heap.size ≠ j; omega) (by rw [List.length_append, H1.out.len, H2.out.len]; omega)).mono ?_
    rintro e W3 ⟨v3, rfl, o3, q3⟩
    have E3 : Ext w W3 := Below.trans E2 (Below.trans (Below.alloc (Below.refl _ _) E2.size _) q3)
    obtain ⟨a3, n3, c3, rfl, _, r3⟩ := o3.read
    have hn3 : n3 ≤ 65536 := by rw [← r3.len, List.length_append, List.length_append, Pl.two_length, H1.out.len, H2.out.len]; simp; omega
    clear hlt2 o2 q3
    go_wp2_with fail
    refine (sumOf_any a3 n3 c3 _ W3 r3 ((HB1.out.append HB2.out).append (Pl.two_isB (fun x hx => by simp only [List.mem_cons, List.not_mem_nil, or_false] at hx; rcases hx with rfl | rfl <;> omega))) hn3).mono ?_
    rintro e w' ⟨rfl, rfl⟩
    go_wp2_with fail
    go_ret2
    refine ⟨?_, E3⟩
    rw [List.append_assoc]
    rfl
end Go.Proofs.YtkjchddidpjjmaaDoor
/- The document's answers on segments as bytes: SegBytes, CheckOf. Conditions: as each theorem states them. -/
namespace Go.Proofs.YtkjchddidpjjmaaDoor
open Go.RowKit
set_option maxRecDepth 100000 in
set_option maxHeartbeats 4000000 in
theorem rsegBytes_any (s : Sg) (a : Option Addr) (n c : Nat) (xs : List Int) (ck : Int) (w : World) (hok : Pl.SegOk s n) (hr : Ints .u8 w a n xs) (hck : 0 ≤ ck ∧ ck ≤ 65535) :
    Calls Tryd.prog 30 #[s.v (.slice a n c), .int .i64 ck] w fun e w' => ∃ v, e = .returned v ∧ Own w' w.heap.size v (Pl.segBytes s ck xs) ∧ Ext w w' := by
  have HL := Lib.hid hr.len
  have HR := Lib.hid hr
  have HW := Lib.hid (Pl.segWords_bd hok hck)
  have K0 := Blk.new w 50 (s.cells (.slice a n c))
  have E0 : Ext w (w.alloc (.cells (s.cells (.slice a n c)) 50)) := (Ext.refl w).alloc _
  obtain ⟨c0, c1, c2, c3, c4, c5, c6, c7⟩ := K0.sg
  obtain ⟨hk, hf, ht, ⟨q0, q1⟩, ⟨m0, m1⟩, ⟨f0, f1⟩, hw, _, hn⟩ := hok
  clear hr hck
  rcases hk with hk | hk
  · have hkb : (s.kind == 17) = false := by rw [hk]; rfl
    have HWD := Lib.hid (show Pl.segWords s n ck = [s.frm, s.to, s.seq / 65536, s.seq % 65536, s.ack / 65536, s.ack % 65536, 20480 + s.flags, s.win, ck, 0] by unfold Pl.segWords; rw [if_neg (by rw [hk]; decide)])
    rw [HWD.out] at HW
    have t1 : IntKind.i64.wrap (s.seq.tdiv 65536) = s.seq / 65536 := by rw [Int.tdiv_eq_ediv_of_nonneg q0]; exact IntWalk.i64_in _ (by omega)
    have t2 : IntKind.i64.wrap (s.seq.tmod 65536) = s.seq % 65536 := by rw [Int.tmod_eq_emod_of_nonneg q0]; exact IntWalk.i64_in _ (by omega)
    have t3 : IntKind.i64.wrap (s.ack.tdiv 65536) = s.ack / 65536 := by rw [Int.tdiv_eq_ediv_of_nonneg m0]; exact IntWalk.i64_in _ (by omega)
    have t4 : IntKind.i64.wrap (s.ack.tmod 65536) = s.ack % 65536 := by rw [Int.tmod_eq_emod_of_nonneg m0]; exact IntWalk.i64_in _ (by omega)
    have t5 : IntKind.i64.wrap (20480 + s.flags) = 20480 + s.flags := IntWalk.i64_in _ (by omega)
    clear hk
    go_enter Tryd.func30, Tryd.ntmps30
    go_wp2_with fail
    refine (rwords_any (w.heap.size + 1) (.slice none 0 0) [] (some ⟨w.heap.size + 1, 0, none⟩) 10 10 [s.frm, s.to, s.seq / 65536, s.seq % 65536, s.ack / 65536, s.ack % 65536, 20480 + s.flags, s.win, ck, 0] _ (Own.nil _ _) (ints_at _ _ _ _ _ rfl (by simp)) HW.out (by simp) (fun k hk => by cases hk) (by simp)).mono ?_
    rintro e W1 ⟨v1, rfl, o1, b1⟩
    rw [List.nil_append, ← HWD.out] at o1
    have K1 := Blk.below (K0.alloc (.cells #[.int .i64 s.frm, .int .i64 s.to, .int .i64 (s.seq / 65536), .int .i64 (s.seq % 65536), .int .i64 (s.ack / 65536), .int .i64 (s.ack % 65536), .int .i64 (20480 + s.flags), .int .i64 s.win, .int .i64 ck, .int .i64 0] 3)) b1 (Nat.lt_succ_self _)
    have E1 : Ext w W1 := Below.trans (E0.alloc (.cells #[.int .i64 s.frm, .int .i64 s.to, .int .i64 (s.seq / 65536), .int .i64 (s.seq % 65536), .int .i64 (s.ack / 65536), .int .i64 (s.ack % 65536), .int .i64 (20480 + s.flags), .int .i64 s.win, .int .i64 ck, .int .i64 0] 3)) (Below.mono b1 (Nat.le_succ _))
    clear c0 c1 c2 c3 c4 c5 c6 c7 K0 E0 b1 t1 t2 t3 t4 t5
    obtain ⟨c0, c1, c2, c3, c4, c5, c6, c7⟩ := K1.sg
    clear c0 c1 c2 c3 c4 c5 c6
    go_wp2_with (at_builtin; refine Halt.out ?_)
    refine Halt.mk ?_
    refine app rfl _ _ rfl (w.heap.size + 1) _ _ rfl o1 a n c xs rfl (HR.out.ext E1) (by rw [Pl.two_length, HWD.out]; simp; omega) (by have := K1.lt; omega) ?_
    intro v5 W5 o5 b5
    have E5 : Ext w W5 := Below.trans E1 (Below.mono b5 (Nat.le_succ _))
    go_wp2_with fail
    go_ret
    refine ⟨_, rfl, ?_, E5⟩
    unfold Pl.segBytes
    rw [HL.out]
    exact o5.mono (Nat.le_succ _)
  · have hkb : (s.kind == 17) = true := by rw [hk]; rfl
    have HWD := Lib.hid (show Pl.segWords s n ck = [s.frm, s.to, 8 + (n : Int), ck] by unfold Pl.segWords; rw [if_pos hk])
    rw [HWD.out] at HW
    have t5 : IntKind.i64.wrap (8 + (n : Int)) = 8 + (n : Int) := IntWalk.i64_in _ (by omega)
    clear hk
    go_enter Tryd.func30, Tryd.ntmps30
    go_wp2_with fail
    refine (rwords_any (w.heap.size + 1) (.slice none 0 0) [] (some ⟨w.heap.size + 1, 0, none⟩) 4 4 [s.frm, s.to, 8 + (n : Int), ck] _ (Own.nil _ _) (ints_at _ _ _ _ _ rfl (by simp)) HW.out (by simp) (fun k hk => by cases hk) (by simp)).mono ?_
    rintro e W1 ⟨v1, rfl, o1, b1⟩
    rw [List.nil_append, ← HWD.out] at o1
    have K1 := Blk.below (K0.alloc (.cells #[.int .i64 s.frm, .int .i64 s.to, .int .i64 (8 + (n : Int)), .int .i64 ck] 3)) b1 (Nat.lt_succ_self _)
    have E1 : Ext w W1 := Below.trans (E0.alloc (.cells #[.int .i64 s.frm, .int .i64 s.to, .int .i64 (8 + (n : Int)), .int .i64 ck] 3)) (Below.mono b1 (Nat.le_succ _))
    clear c0 c1 c2 c3 c4 c5 c6 c7 K0 E0 b1 t5
    obtain ⟨c0, c1, c2, c3, c4, c5, c6, c7⟩ := K1.sg
    clear c0 c1 c2 c3 c4 c5 c6
    go_wp2_with (at_builtin; refine Halt.out ?_)
    refine Halt.mk ?_
    refine app rfl _ _ rfl (w.heap.size + 1) _ _ rfl o1 a n c xs rfl (HR.out.ext E1) (by rw [Pl.two_length, HWD.out]; simp; omega) (by have := K1.lt; omega) ?_
    intro v5 W5 o5 b5
    have E5 : Ext w W5 := Below.trans E1 (Below.mono b5 (Nat.le_succ _))
    go_wp2_with fail
    go_ret
    refine ⟨_, rfl, ?_, E5⟩
    unfold Pl.segBytes
    rw [HL.out]
    exact o5.mono (Nat.le_succ _)

set_option maxRecDepth 100000 in
set_option maxHeartbeats 4000000 in
theorem rcheckOf_any (s : Sg) (a : Option Addr) (n c : Nat) (xs : List Int) (over : Int) (w : World) (hok : Pl.SegOk s n) (hr : Ints .u8 w a n xs) (hb : Pl.IsB xs) (ho : Pl.Word over) :
    Calls Tryd.prog 31 #[s.v (.slice a n c), .int .i64 over] w fun e w' => e = .returned (.int .i64 (Pl.segCheck s over xs)) ∧ Ext w w' := by
  have HL := Lib.hid hr.len
  have HR := Lib.hid hr
  have HB := Lib.hid hb
  have HOK := Lib.hid hok
  have HO := Lib.hid ho
  have K0 := Blk.new w 50 (s.cells (.slice a n c))
  have E0 : Ext w (w.alloc (.cells (s.cells (.slice a n c)) 50)) := (Ext.refl w).alloc _
  have ld := K0.seg
  clear hr hb ho hok
  go_enter Tryd.func31, Tryd.ntmps31
  go_wp2_with ((apply load_by rfl _ _ rfl _ rfl); (focus (with_reducible assumption)))
  refine (rsegBytes_any s a n c xs 0 _ HOK.out (HR.out.ext E0) (by decide)).mono ?_
  rintro e W1 ⟨v1, rfl, o1, q1⟩
  have K1 := K0.ext q1
  have E1 := E0.trans q1
  obtain ⟨a1, n1, c1, rfl, _, r1⟩ := o1.read
  have hok' : Pl.SegOk s xs.length := by rw [HL.out]; exact HOK.out
  have hI1 := Pl.segBytes_isB hok' (c := 0) (by decide) HB.out
  have hn1 : n1 ≤ 65536 := by
    have h1 := r1.len
    have h2 := Pl.segBytes_length (c := 0) (xs := xs) HOK.out.1
    have h3 := HL.out
    have h4 := HOK.out.2.2.2.2.2.2.2.2
    have h5 : Pl.segSize s.kind ≤ 20 := by unfold Pl.segSize; split <;> omega
    omega
  clear ld K0 E0 q1 hok'
  go_wp2_with fail
  refine (sumOf_any _ _ _ _ W1 r1 hI1 hn1).mono ?_
  rintro e w' ⟨rfl, rfl⟩
  have f0 := Pl.fold_lo (Pl.raw 0 (Pl.segBytes s 0 xs))
  have f1 := Pl.fold_hi (Pl.raw 0 (Pl.segBytes s 0 xs))
  obtain ⟨F, hF⟩ : ∃ F, Pl.fold (Pl.raw 0 (Pl.segBytes s 0 xs)) = F := ⟨_, rfl⟩
  rw [hF] at f0 f1 ⊢
  obtain ⟨o0, o1'⟩ := HO.out
  have HF := Lib.hid hF
  clear hF hI1 r1 o1 hn1
  go_wp2_with fail
  refine (rfold_any (over + F) W1 (by omega) (by omega)).mono ?_
  rintro e w' ⟨rfl, rfl⟩
  have hC : Pl.fold (over + F) = 65535 - Pl.segSum s over xs := by unfold Pl.segSum; rw [HF.out]; omega
  rw [hC]
  clear hC
  obtain ⟨b0, b1⟩ := Pl.segSum_bd s over xs
  obtain ⟨C, hCC⟩ : ∃ C, Pl.segSum s over xs = C := ⟨_, rfl⟩
  rw [hCC] at b0 b1 ⊢
  have HCC := Lib.hid hCC
  have e10 : (65535 - (65535 - C)) = C := by omega
  have e8 : IntKind.i64.wrap (65535 - (65535 - C)) = C := by rw [e10]; exact IntWalk.i64_in _ (by omega)
  obtain ⟨c0, c1, c2, c3, c4, c5, c6, c7⟩ := K1.sg
  clear hCC c1 c2 c3 c4 c5 c6 c7
  have hck : Pl.segCheck s over xs = if s.kind = 17 ∧ C = 0 then 65535 else C := by unfold Pl.segCheck; rw [HCC.out]
  rcases HOK.out.1 with hk | hk
  · have hkb : (s.kind == 17) = false := by rw [hk]; rfl
    have HR2 := Lib.hid (show C = Pl.segCheck s over xs by rw [hck, if_neg (by omega)])
    clear hk hck
    go_wp2_with fail
    go_ret
    exact ⟨by rw [← HR2.out]; rfl, E1⟩
  · have hkb : (s.kind == 17) = true := by rw [hk]; rfl
    by_cases hz : C = 0
    · have hzb : (C == 0) = true := by rw [hz]; rfl
      have HR2 := Lib.hid (show (65535 : Int) = Pl.segCheck s over xs by rw [hck, if_pos ⟨hk, hz⟩])
      clear hk hck hz
      go_wp2_with fail
      go_ret
      exact ⟨by rw [← HR2.out]; rfl, E1⟩
    · have hzb : (C == 0) = false := by simpa using hz
      have HR2 := Lib.hid (show C = Pl.segCheck s over xs by rw [hck, if_neg (fun h => hz h.2)])
      clear hk hck hz
      go_wp2_with fail
      go_ret
      exact ⟨by rw [← HR2.out]; rfl, E1⟩
end Go.Proofs.YtkjchddidpjjmaaDoor
