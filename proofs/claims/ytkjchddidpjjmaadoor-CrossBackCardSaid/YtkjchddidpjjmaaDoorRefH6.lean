/- The document's SegOf: bytes as a segment over something, of TCP. Conditions: as each theorem states them. -/
import Derived.Test.YtkjchddidpjjmaaDoorRefH
namespace Go.Proofs.YtkjchddidpjjmaaDoor
open Go.RowKit
set_option maxRecDepth 100000 in
set_option maxHeartbeats 8000000 in
theorem rsegOf_core6 (a : Option Addr) (n c : Nat) (xs : List Int) (over : Int) (w : World) (hr : Ints .u8 w a n xs) (hb : Pl.IsB xs) (hnc : n ≤ c) (hc : a = none → c = 0) (ho : Pl.Word over) (h0 : 20 ≤ n) (h1 : n ≤ 320) :
    Calls Tryd.prog 33 #[.int .i64 6, .slice a n c, .int .i64 over] w (RDecGot 6 xs over w) := by
  obtain ⟨b, off, rfl, hbl, hcell⟩ := hr.at (by omega)
  have hl := hr.len
  have HR := Lib.hid hr
  have HB := Lib.hid hb
  have HO := Lib.hid ho
  have HO' := Lib.hid (w16_word ho)
  have HL := Lib.hid hl
  have KR := Blk.new w 50 #[.int .i64 0, .int .i64 0, .int .i64 0, .int .i64 0, .int .i64 0, .int .i64 0, .int .i64 0, .slice none 0 0]
  have E0 : Ext w (w.alloc (.cells #[.int .i64 0, .int .i64 0, .int .i64 0, .int .i64 0, .int .i64 0, .int .i64 0, .int .i64 0, .slice none 0 0] 50)) := (Ext.refl w).alloc _
  obtain ⟨AS, iS, zS, rS⟩ := slice_tail (some ⟨b, off, none⟩) n c 20 20 rfl (by omega) hnc hc
  have HIS := Lib.hid (fun (W : World) (q : Ext w W) => (iS W xs (hr.ext q)))
  have F0 := Lib.hid (fun (W : World) (q : Ext w W) => rword_ext (some ⟨b, off, none⟩) n c 0 0 rfl xs W (hr.ext q) hb (by omega) (by omega))
  have F2 := Lib.hid (fun (W : World) (q : Ext w W) => rword_ext (some ⟨b, off, none⟩) n c 2 2 rfl xs W (hr.ext q) hb (by omega) (by omega))
  have F6 := Lib.hid (fun (W : World) (q : Ext w W) => rword_ext (some ⟨b, off, none⟩) n c 6 6 rfl xs W (hr.ext q) hb (by omega) (by omega))
  have F4 := Lib.hid (fun (W : World) (q : Ext w W) => rword_ext (some ⟨b, off, none⟩) n c 4 4 rfl xs W (hr.ext q) hb (by omega) (by omega))
  have F8 := Lib.hid (fun (W : World) (q : Ext w W) => rword_ext (some ⟨b, off, none⟩) n c 8 8 rfl xs W (hr.ext q) hb (by omega) (by omega))
  have F10 := Lib.hid (fun (W : World) (q : Ext w W) => rword_ext (some ⟨b, off, none⟩) n c 10 10 rfl xs W (hr.ext q) hb (by omega) (by omega))
  have F14 := Lib.hid (fun (W : World) (q : Ext w W) => rword_ext (some ⟨b, off, none⟩) n c 14 14 rfl xs W (hr.ext q) hb (by omega) (by omega))
  have F16 := Lib.hid (fun (W : World) (q : Ext w W) => rword_ext (some ⟨b, off, none⟩) n c 16 16 rfl xs W (hr.ext q) hb (by omega) (by omega))
  have F18 := Lib.hid (fun (W : World) (q : Ext w W) => rword_ext (some ⟨b, off, none⟩) n c 18 18 rfl xs W (hr.ext q) hb (by omega) (by omega))
  have l0 : ¬ (n : Int) < 20 := by omega
  have l1 : ¬ (320 : Int) < (n : Int) := by omega
  have HCELL := Lib.hid (fun (W : World) (q : Ext w W) j (hj : j < n) => (World.cell?_of_block (a := ⟨b, off + j, none⟩) (Below.block q b hbl)).trans (hcell j hj))
  have HQ := Lib.hid (Pl.segQ_of (k := 6) (over := over) (xs := xs) (by decide) ho)
  clear hcell hr hb ho hl iS zS hc
  go_enter Tryd.func33, Tryd.ntmps33
  go_wp2_with fail
  refine (word_any _ _).mono ?_
  rintro e w' ⟨rfl, rfl⟩
  rw [HO'.out]
  go_upto_region 9 with (fail)
  refine at_worldE (fun W => Ext w W ∧ Blk W w.heap.size 50 #[.int .i64 0, .int .i64 0, .int .i64 0, .int .i64 0, .int .i64 0, .int .i64 0, .int .i64 0, .slice none 0 0]) ⟨E0, KR⟩ ?_
  clear E0 KR
  rintro W0 ⟨E0, KR⟩
  go_cut [10] (fun p wc => ∃ g, p = .pointer (some ⟨g, 0, none⟩) ∧ W0.heap.size ≤ g ∧ Blk wc g 50 ((⟨6, Pl.at2 xs 0, Pl.at2 xs 2, 0, 0, 0, 0⟩ : Sg).cells (.slice AS (n - 20) (c - 20))) ∧ Ext W0 wc)
  case first =>
    have EX : Ext W0 W0.drew := (Ext.refl W0).drew
    refine wp_region_held_drew (S := (fun _ => True)) (by kernel_rfl) trivial (fun hS0 => ?_)
    generalize W0.drew = V0 at *
    (refine wpAnyH_take (i := 0) (v := ?_) rfl (by kernel_rfl) (by kernel_rfl) (by kernel_rfl) (fun _ _ _ h => h) (Or.inl ⟨by rfl, ?_⟩) (by assumption) ?_; rotate_left; focus (intro w hSw; (try dsimp only at hSw); go_simp; try with_reducible rfl); try simp only [Act.put, List.getElem_toArray, List.getElem_cons_succ, List.getElem_cons_zero, List.setIfInBounds_toArray, List.set_cons_zero, List.set_cons_succ])
    (refine wpAnyH_take (i := 1) (v := ?_) rfl (by kernel_rfl) (by kernel_rfl) (by kernel_rfl) (fun _ _ _ h => h) (Or.inl ⟨by rfl, ?_⟩) (by assumption) ?_; rotate_left; focus (intro w hSw; (try dsimp only at hSw); go_simp; try with_reducible rfl); try simp only [Act.put, List.getElem_toArray, List.getElem_cons_succ, List.getElem_cons_zero, List.setIfInBounds_toArray, List.set_cons_zero, List.set_cons_succ])
    (refine wpAnyH_take (i := 3) (v := ?_) rfl (by kernel_rfl) (by kernel_rfl) (by kernel_rfl) (fun _ _ _ h => h) (Or.inl ⟨by rfl, ?_⟩) (by assumption) ?_; rotate_left; focus (intro w hSw; (try dsimp only at hSw); go_simp; try with_reducible rfl); try simp only [Act.put, List.getElem_toArray, List.getElem_cons_succ, List.getElem_cons_zero, List.setIfInBounds_toArray, List.set_cons_zero, List.set_cons_succ])
    (refine wpAnyH_take (i := 5) (v := ?_) rfl (by kernel_rfl) (by kernel_rfl) (by kernel_rfl) (fun _ _ _ h => h) (Or.inl ⟨by rfl, ?_⟩) (by assumption) ?_; rotate_left; focus (intro w hSw; (try dsimp only at hSw); go_simp; try with_reducible rfl); try simp only [Act.put, List.getElem_toArray, List.getElem_cons_succ, List.getElem_cons_zero, List.setIfInBounds_toArray, List.set_cons_zero, List.set_cons_succ])
    (refine wpAnyH_take (i := 6) (v := ?_) rfl (by kernel_rfl) (by kernel_rfl) (by kernel_rfl) (fun _ _ _ h => h) (Or.inl ⟨by rfl, ?_⟩) (by assumption) ?_; rotate_left; focus (intro w hSw; (try dsimp only at hSw); go_simp; try with_reducible rfl); try simp only [Act.put, List.getElem_toArray, List.getElem_cons_succ, List.getElem_cons_zero, List.setIfInBounds_toArray, List.set_cons_zero, List.set_cons_succ])
    (refine wpAnyH_take (i := 7) (v := ?_) rfl (by kernel_rfl) (by kernel_rfl) (by kernel_rfl) (fun _ _ _ h => h) (Or.inl ⟨by rfl, ?_⟩) (by assumption) ?_; rotate_left; focus (intro w hSw; (try dsimp only at hSw); go_simp; try with_reducible rfl); try simp only [Act.put, List.getElem_toArray, List.getElem_cons_succ, List.getElem_cons_zero, List.setIfInBounds_toArray, List.set_cons_zero, List.set_cons_succ])
    refine wpAnyH_ready (rs := [2, 9]) (by kernel_rfl) (by simp) ?_
    refine AllReadyH.cons rfl (fun K hK => ?_) (AllReadyH.cons rfl (fun K hK => ?_) AllReadyH.nil)
    · go_simp
      go_at_call 68
      refine (F0.out _ (E0.trans EX)).mono ?_
      rintro e V1 ⟨rfl, q⟩
      replace EX := EX.trans q
      refine hK.out _ _ trivial ?_
      clear hK K q
      intro hS
      (try simp only [Act.put, List.getElem_toArray, List.getElem_cons_succ, List.getElem_cons_zero, List.setIfInBounds_toArray, List.set_cons_zero, List.set_cons_succ])
      refine wpAnyH_ready (rs := [4, 9]) (by kernel_rfl) (by simp) ?_
      refine AllReadyH.cons rfl (fun K hK => ?_) (AllReadyH.cons rfl (fun K hK => ?_) AllReadyH.nil)
      · go_simp
        go_at_call 68
        refine (F2.out _ (E0.trans EX)).mono ?_
        rintro e V2 ⟨rfl, q⟩
        replace EX := EX.trans q
        refine hK.out _ _ trivial ?_
        clear hK K q
        intro hS
        (try simp only [Act.put, List.getElem_toArray, List.getElem_cons_succ, List.getElem_cons_zero, List.setIfInBounds_toArray, List.set_cons_zero, List.set_cons_succ])
        (refine wpAnyH_take (i := 8) (v := ?_) rfl (by kernel_rfl) (by kernel_rfl) (by kernel_rfl) (fun _ _ _ h => h) (Or.inl ⟨by rfl, ?_⟩) (by assumption) ?_; rotate_left; focus (intro w hSw; (try dsimp only at hSw); go_simp; try with_reducible rfl); try simp only [Act.put, List.getElem_toArray, List.getElem_cons_succ, List.getElem_cons_zero, List.setIfInBounds_toArray, List.set_cons_zero, List.set_cons_succ])
        refine wpAnyH_ready (rs := [9]) (by kernel_rfl) (by simp) ?_
        refine AllReadyH.cons rfl (fun K hK => ?_) AllReadyH.nil
        · go_simp
          have KG := Blk.new V2 50 #[.int .i64 0, .int .i64 0, .int .i64 0, .int .i64 0, .int .i64 0, .int .i64 0, .int .i64 0, .slice none 0 0]
          have EX3 := EX.alloc (.cells #[.int .i64 0, .int .i64 0, .int .i64 0, .int .i64 0, .int .i64 0, .int .i64 0, .int .i64 0, .slice none 0 0] 50)
          have hgl : W0.heap.size ≤ V2.heap.size := EX.size
          refine hK.out _ _ trivial ?_
          clear hK K
          intro hS
          clear EX
          generalize V2.alloc (.cells #[.int .i64 0, .int .i64 0, .int .i64 0, .int .i64 0, .int .i64 0, .int .i64 0, .int .i64 0, .slice none 0 0] 50) = V3 at *
          have EX := EX3
          clear EX3
          generalize V2.heap.size = g at *
          (try simp only [Act.put, List.getElem_toArray, List.getElem_cons_succ, List.getElem_cons_zero, List.setIfInBounds_toArray, List.set_cons_zero, List.set_cons_succ])
          (refine wpAnyH_ready (rs := [10]) (by kernel_rfl) (by simp) ?_; refine AllReadyH.cons rfl (fun K hK => ?_) AllReadyH.nil)
          rw [if_pos (by rfl)]
          refine wp_store_by _ _ _ rfl _ rfl (sto KG ⟨6, Pl.at2 xs 0, Pl.at2 xs 2, 0, 0, 0, 0⟩ AS (n - 20) (c - 20)) rfl ?_
          refine hK.out _ _ trivial ?_
          clear hK K
          intro hS
          (try simp only [Act.put])
          refine wpAnyH_done (by kernel_rfl) ?_ _
          have K8 := KG.row ((⟨6, Pl.at2 xs 0, Pl.at2 xs 2, 0, 0, 0, 0⟩ : Sg).cells (.slice AS (n - 20) (c - 20)))
          have E8 := EX.row hgl ((⟨6, Pl.at2 xs 0, Pl.at2 xs 2, 0, 0, 0, 0⟩ : Sg).cells (.slice AS (n - 20) (c - 20)))
          go_wp2_with fail
          go_meet
          exact ⟨_, rfl, hgl, K8, E8⟩
      · go_simp
        have KG := Blk.new V1 50 #[.int .i64 0, .int .i64 0, .int .i64 0, .int .i64 0, .int .i64 0, .int .i64 0, .int .i64 0, .slice none 0 0]
        have EX2 := EX.alloc (.cells #[.int .i64 0, .int .i64 0, .int .i64 0, .int .i64 0, .int .i64 0, .int .i64 0, .int .i64 0, .slice none 0 0] 50)
        have hgl : W0.heap.size ≤ V1.heap.size := EX.size
        refine hK.out _ _ trivial ?_
        clear hK K
        intro hS
        clear EX
        generalize V1.alloc (.cells #[.int .i64 0, .int .i64 0, .int .i64 0, .int .i64 0, .int .i64 0, .int .i64 0, .int .i64 0, .slice none 0 0] 50) = V2 at *
        have EX := EX2
        clear EX2
        generalize V1.heap.size = g at *
        (try simp only [Act.put, List.getElem_toArray, List.getElem_cons_succ, List.getElem_cons_zero, List.setIfInBounds_toArray, List.set_cons_zero, List.set_cons_succ])
        refine wpAnyH_ready (rs := [4]) (by kernel_rfl) (by simp) ?_
        refine AllReadyH.cons rfl (fun K hK => ?_) AllReadyH.nil
        · go_simp
          go_at_call 68
          refine (F2.out _ (E0.trans EX)).mono ?_
          rintro e V3 ⟨rfl, q⟩
          replace EX := EX.trans q
          replace KG := KG.ext q
          refine hK.out _ _ trivial ?_
          clear hK K q
          intro hS
          (try simp only [Act.put, List.getElem_toArray, List.getElem_cons_succ, List.getElem_cons_zero, List.setIfInBounds_toArray, List.set_cons_zero, List.set_cons_succ])
          (refine wpAnyH_take (i := 8) (v := ?_) rfl (by kernel_rfl) (by kernel_rfl) (by kernel_rfl) (fun _ _ _ h => h) (Or.inl ⟨by rfl, ?_⟩) (by assumption) ?_; rotate_left; focus (intro w hSw; (try dsimp only at hSw); go_simp; try with_reducible rfl); try simp only [Act.put, List.getElem_toArray, List.getElem_cons_succ, List.getElem_cons_zero, List.setIfInBounds_toArray, List.set_cons_zero, List.set_cons_succ])
          (refine wpAnyH_ready (rs := [10]) (by kernel_rfl) (by simp) ?_; refine AllReadyH.cons rfl (fun K hK => ?_) AllReadyH.nil)
          rw [if_pos (by rfl)]
          refine wp_store_by _ _ _ rfl _ rfl (sto KG ⟨6, Pl.at2 xs 0, Pl.at2 xs 2, 0, 0, 0, 0⟩ AS (n - 20) (c - 20)) rfl ?_
          refine hK.out _ _ trivial ?_
          clear hK K
          intro hS
          (try simp only [Act.put, List.getElem_toArray, List.getElem_cons_succ, List.getElem_cons_zero, List.setIfInBounds_toArray, List.set_cons_zero, List.set_cons_succ])
          refine wpAnyH_done (by kernel_rfl) ?_ _
          have K8 := KG.row ((⟨6, Pl.at2 xs 0, Pl.at2 xs 2, 0, 0, 0, 0⟩ : Sg).cells (.slice AS (n - 20) (c - 20)))
          have E8 := EX.row hgl ((⟨6, Pl.at2 xs 0, Pl.at2 xs 2, 0, 0, 0, 0⟩ : Sg).cells (.slice AS (n - 20) (c - 20)))
          go_wp2_with fail
          go_meet
          exact ⟨_, rfl, hgl, K8, E8⟩
    · go_simp
      have KG := Blk.new V0 50 #[.int .i64 0, .int .i64 0, .int .i64 0, .int .i64 0, .int .i64 0, .int .i64 0, .int .i64 0, .slice none 0 0]
      have EX1 := EX.alloc (.cells #[.int .i64 0, .int .i64 0, .int .i64 0, .int .i64 0, .int .i64 0, .int .i64 0, .int .i64 0, .slice none 0 0] 50)
      have hgl : W0.heap.size ≤ V0.heap.size := EX.size
      refine hK.out _ _ trivial ?_
      clear hK K
      intro hS
      clear EX
      generalize V0.alloc (.cells #[.int .i64 0, .int .i64 0, .int .i64 0, .int .i64 0, .int .i64 0, .int .i64 0, .int .i64 0, .slice none 0 0] 50) = V1 at *
      have EX := EX1
      clear EX1
      generalize V0.heap.size = g at *
      (try simp only [Act.put, List.getElem_toArray, List.getElem_cons_succ, List.getElem_cons_zero, List.setIfInBounds_toArray, List.set_cons_zero, List.set_cons_succ])
      refine wpAnyH_ready (rs := [2]) (by kernel_rfl) (by simp) ?_
      refine AllReadyH.cons rfl (fun K hK => ?_) AllReadyH.nil
      · go_simp
        go_at_call 68
        refine (F0.out _ (E0.trans EX)).mono ?_
        rintro e V2 ⟨rfl, q⟩
        replace EX := EX.trans q
        replace KG := KG.ext q
        refine hK.out _ _ trivial ?_
        clear hK K q
        intro hS
        (try simp only [Act.put, List.getElem_toArray, List.getElem_cons_succ, List.getElem_cons_zero, List.setIfInBounds_toArray, List.set_cons_zero, List.set_cons_succ])
        refine wpAnyH_ready (rs := [4]) (by kernel_rfl) (by simp) ?_
        refine AllReadyH.cons rfl (fun K hK => ?_) AllReadyH.nil
        · go_simp
          go_at_call 68
          refine (F2.out _ (E0.trans EX)).mono ?_
          rintro e V3 ⟨rfl, q⟩
          replace EX := EX.trans q
          replace KG := KG.ext q
          refine hK.out _ _ trivial ?_
          clear hK K q
          intro hS
          (try simp only [Act.put, List.getElem_toArray, List.getElem_cons_succ, List.getElem_cons_zero, List.setIfInBounds_toArray, List.set_cons_zero, List.set_cons_succ])
          (refine wpAnyH_take (i := 8) (v := ?_) rfl (by kernel_rfl) (by kernel_rfl) (by kernel_rfl) (fun _ _ _ h => h) (Or.inl ⟨by rfl, ?_⟩) (by assumption) ?_; rotate_left; focus (intro w hSw; (try dsimp only at hSw); go_simp; try with_reducible rfl); try simp only [Act.put, List.getElem_toArray, List.getElem_cons_succ, List.getElem_cons_zero, List.setIfInBounds_toArray, List.set_cons_zero, List.set_cons_succ])
          (refine wpAnyH_ready (rs := [10]) (by kernel_rfl) (by simp) ?_; refine AllReadyH.cons rfl (fun K hK => ?_) AllReadyH.nil)
          rw [if_pos (by rfl)]
          refine wp_store_by _ _ _ rfl _ rfl (sto KG ⟨6, Pl.at2 xs 0, Pl.at2 xs 2, 0, 0, 0, 0⟩ AS (n - 20) (c - 20)) rfl ?_
          refine hK.out _ _ trivial ?_
          clear hK K
          intro hS
          (try simp only [Act.put, List.getElem_toArray, List.getElem_cons_succ, List.getElem_cons_zero, List.setIfInBounds_toArray, List.set_cons_zero, List.set_cons_succ])
          refine wpAnyH_done (by kernel_rfl) ?_ _
          have K8 := KG.row ((⟨6, Pl.at2 xs 0, Pl.at2 xs 2, 0, 0, 0, 0⟩ : Sg).cells (.slice AS (n - 20) (c - 20)))
          have E8 := EX.row hgl ((⟨6, Pl.at2 xs 0, Pl.at2 xs 2, 0, 0, 0, 0⟩ : Sg).cells (.slice AS (n - 20) (c - 20)))
          go_wp2_with fail
          go_meet
          exact ⟨_, rfl, hgl, K8, E8⟩
  obtain ⟨g, rfl, hgl, KG, EG⟩ := hcut
  have EW := E0.trans EG
  have KW := KR.ext EG
  have hww := KW.lt
  have hgw : w.heap.size ≠ g := by have := KR.lt; omega
  have hwg : w.heap.size ≤ g := by have := E0.size; omega
  have hgb : g ≠ b := by have := E0.size; omega
  clear E0 EG KR F0 F2 hgl
  generalize W0.heap.size = Z0 at *
  obtain ⟨y4, z4⟩ := Pl.at2_rng HB.out 4
  obtain ⟨y6, z6⟩ := Pl.at2_rng HB.out 6
  obtain ⟨y8, z8⟩ := Pl.at2_rng HB.out 8
  obtain ⟨y10, z10⟩ := Pl.at2_rng HB.out 10
  obtain ⟨y14, z14⟩ := Pl.at2_rng HB.out 14
  obtain ⟨y18, z18⟩ := Pl.at2_rng HB.out 18
  have y12 := HB.out.getD 12
  have y13 := HB.out.getD 13
  have HD := Lib.hid (show xs.getD 13 0 ≤ 31 → (⟨6, Pl.at2 xs 0, Pl.at2 xs 2, 65536 * Pl.at2 xs 4 + Pl.at2 xs 6, 65536 * Pl.at2 xs 8 + Pl.at2 xs 10, xs.getD 13 0, Pl.at2 xs 14⟩ : Sg) = Pl.decSeg 6 xs from fun h => by
    unfold Pl.decSeg
    rw [if_pos rfl, Int.mul_comm 65536 (Pl.at2 xs 4), Int.mul_comm 65536 (Pl.at2 xs 8), show xs.getD 13 0 % 32 = xs.getD 13 0 by omega])
  have H18 := Lib.hid (show Pl.at2 xs 18 = 0 → xs.getD 18 0 = 0 ∧ xs.getD 19 0 = 0 from fun h => by
    have h18 := HB.out.getD 18
    have h19 := HB.out.getD 19
    have h' : xs.getD 18 0 * 256 + xs.getD 19 0 = 0 := h
    omega)
  have H18' := Lib.hid (show xs.getD 18 0 = 0 ∧ xs.getD 19 0 = 0 → Pl.at2 xs 18 = 0 from fun h => by show xs.getD 18 0 * 256 + xs.getD 19 0 = 0; omega)
  obtain ⟨X12, hX12⟩ : ∃ x, xs.getD 12 0 = x := ⟨_, rfl⟩
  obtain ⟨X13, hX13⟩ : ∃ x, xs.getD 13 0 = x := ⟨_, rfl⟩
  rw [hX12] at y12
  rw [hX13] at y13 HD
  have HX12 := Lib.hid hX12
  have HX13 := Lib.hid hX13
  have C12 := Lib.hid (fun (W : World) (q : Ext w W) => hX12 ▸ HCELL.out W q 12 (by omega))
  have C13 := Lib.hid (fun (W : World) (q : Ext w W) => hX13 ▸ HCELL.out W q 13 (by omega))
  clear hX12 hX13
  have m1 : IntKind.i64.wrap X13 = X13 := IntWalk.i64_in _ (by omega)
  have l12 : (12 : Int) < (n : Int) := by omega
  have l13 : (13 : Int) < (n : Int) := by omega
  go_wp2_with fail
  refine (F6.out wc EW).mono ?_
  rintro e W1 ⟨rfl, q1⟩
  replace EW := EW.trans q1
  replace KW := KW.ext q1
  replace KG := KG.ext q1
  clear q1
  go_wp2_with fail
  refine (F4.out W1 EW).mono ?_
  rintro e W2 ⟨rfl, q2⟩
  replace EW := EW.trans q2
  replace KW := KW.ext q2
  replace KG := KG.ext q2
  clear q2
  go_wp2_with fail
  refine (F6.out W2 EW).mono ?_
  rintro e W3 ⟨rfl, q3⟩
  replace EW := EW.trans q3
  replace KW := KW.ext q3
  replace KG := KG.ext q3
  clear q3
  have t0 := KG.sti 3 (65536 * Pl.at2 xs 4 + Pl.at2 xs 6) (by simp [Sg.cells])
  replace EW := EW.set (p := ⟨g, 3, none⟩) hwg (.int .i64 (65536 * Pl.at2 xs 4 + Pl.at2 xs 6))
  replace KW := KW.far (p := ⟨g, 3, none⟩) hgw (.int .i64 (65536 * Pl.at2 xs 4 + Pl.at2 xs 6))
  replace KG : Blk _ g 50 ((⟨6, Pl.at2 xs 0, Pl.at2 xs 2, 65536 * Pl.at2 xs 4 + Pl.at2 xs 6, 0, 0, 0⟩ : Sg).cells (.slice AS (n - 20) (c - 20))) := KG.put 3 (.int .i64 (65536 * Pl.at2 xs 4 + Pl.at2 xs 6))
  go_wp2_with ((apply store_by rfl _ _ _ rfl _ rfl); (focus (with_reducible assumption)); (focus rfl))
  refine (F8.out _ EW).mono ?_
  rintro e W4 ⟨rfl, q4⟩
  replace EW := EW.trans q4
  replace KW := KW.ext q4
  replace KG := KG.ext q4
  clear q4
  clear t0
  go_wp2_with fail
  refine (F10.out W4 EW).mono ?_
  rintro e W5 ⟨rfl, q5⟩
  replace EW := EW.trans q5
  replace KW := KW.ext q5
  replace KG := KG.ext q5
  clear q5
  have t0 := KG.sti 4 (65536 * Pl.at2 xs 8 + Pl.at2 xs 10) (by simp [Sg.cells])
  replace EW := EW.set (p := ⟨g, 4, none⟩) hwg (.int .i64 (65536 * Pl.at2 xs 8 + Pl.at2 xs 10))
  replace KW := KW.far (p := ⟨g, 4, none⟩) hgw (.int .i64 (65536 * Pl.at2 xs 8 + Pl.at2 xs 10))
  replace KG : Blk _ g 50 ((⟨6, Pl.at2 xs 0, Pl.at2 xs 2, 65536 * Pl.at2 xs 4 + Pl.at2 xs 6, 65536 * Pl.at2 xs 8 + Pl.at2 xs 10, 0, 0⟩ : Sg).cells (.slice AS (n - 20) (c - 20))) := KG.put 4 (.int .i64 (65536 * Pl.at2 xs 8 + Pl.at2 xs 10))
  have d13 := C13.out _ EW
  have t1 := KG.sti 5 X13 (by simp [Sg.cells])
  replace EW := EW.set (p := ⟨g, 5, none⟩) hwg (.int .i64 X13)
  replace KW := KW.far (p := ⟨g, 5, none⟩) hgw (.int .i64 X13)
  replace KG : Blk _ g 50 ((⟨6, Pl.at2 xs 0, Pl.at2 xs 2, 65536 * Pl.at2 xs 4 + Pl.at2 xs 6, 65536 * Pl.at2 xs 8 + Pl.at2 xs 10, X13, 0⟩ : Sg).cells (.slice AS (n - 20) (c - 20))) := KG.put 5 (.int .i64 X13)
  go_wp2_with ((apply store_by rfl _ _ _ rfl _ rfl); (focus (with_reducible assumption)); (focus rfl))
  refine (F14.out _ EW).mono ?_
  rintro e W6 ⟨rfl, q6⟩
  replace EW := EW.trans q6
  replace KW := KW.ext q6
  replace KG := KG.ext q6
  clear q6 t0 t1 d13
  have t0 := KG.sti 6 (Pl.at2 xs 14) (by simp [Sg.cells])
  replace EW := EW.set (p := ⟨g, 6, none⟩) hwg (.int .i64 (Pl.at2 xs 14))
  replace KW := KW.far (p := ⟨g, 6, none⟩) hgw (.int .i64 (Pl.at2 xs 14))
  replace KG : Blk _ g 50 ((⟨6, Pl.at2 xs 0, Pl.at2 xs 2, 65536 * Pl.at2 xs 4 + Pl.at2 xs 6, 65536 * Pl.at2 xs 8 + Pl.at2 xs 10, X13, Pl.at2 xs 14⟩ : Sg).cells (.slice AS (n - 20) (c - 20))) := KG.put 6 (.int .i64 (Pl.at2 xs 14))
  go_wp2_with ((apply store_by rfl _ _ _ rfl _ rfl); (focus (with_reducible assumption)); (focus rfl))
  refine (F16.out _ EW).mono ?_
  rintro e W7 ⟨rfl, q7⟩
  replace EW := EW.trans q7
  replace KW := KW.ext q7
  replace KG := KG.ext q7
  clear q7
  clear t0
  have d12 := C12.out _ EW
  have c5 : W7.cell? ⟨g, 5, none⟩ = some (.int .i64 X13) := KG.cells 5
  have s0 := sto KW ⟨0, 0, 0, 0, 0, 0, 0⟩ none 0 0
  have HI5 : Hid (¬ (X12 = 80 ∧ X13 ≤ 31 ∧ Pl.at2 xs 18 = 0) → Pl.segQ 6 xs over = 5) := Lib.hid (fun h => by
    rw [HQ.out, if_pos]
    rintro ⟨_, h6, _⟩
    obtain ⟨h1, h2, h3, h4⟩ := h6 rfl
    exact h ⟨HX12.out ▸ h1, HX13.out ▸ h2, H18'.out ⟨h3, h4⟩⟩)
  by_cases h12 : X12 = 80
  case neg =>
    have HQ5 := Lib.hid (HI5.out (fun h => h12 h.1))
    have b12 : (X12 != 80) = true := by simpa using h12
    clear h12
    go_wp2_with ((apply store_by rfl _ _ _ rfl _ rfl); (focus (with_reducible assumption)); (focus rfl))
    refine bodyPost_ret (results_cell2 Tryd.results33 _ _ w.heap.size 50 #[.int .i64 0, .int .i64 0, .int .i64 0, .int .i64 0, .int .i64 0, .int .i64 0, .int .i64 0, .slice none 0 0] _ rfl (KW.row _) Tryd.underlying50 rfl Tryd.sizeSeg) rfl (rdecGot_bad HQ5.out (by decide) (EW.row (Nat.le_refl _) _))
  have b12 : (X12 != 80) = false := by simpa using h12
  by_cases h13 : X13 ≤ 31
  case neg =>
    have HQ5 := Lib.hid (HI5.out (fun h => h13 h.2.1))
    have b13 : 31 < X13 := by omega
    clear h13 h12
    go_wp2_with ((apply store_by rfl _ _ _ rfl _ rfl); (focus (with_reducible assumption)); (focus rfl))
    refine bodyPost_ret (results_cell2 Tryd.results33 _ _ w.heap.size 50 #[.int .i64 0, .int .i64 0, .int .i64 0, .int .i64 0, .int .i64 0, .int .i64 0, .int .i64 0, .slice none 0 0] _ rfl (KW.row _) Tryd.underlying50 rfl Tryd.sizeSeg) rfl (rdecGot_bad HQ5.out (by decide) (EW.row (Nat.le_refl _) _))
  have b13 : ¬ 31 < X13 := by omega
  by_cases h18 : Pl.at2 xs 18 = 0
  case neg =>
    have HQ5 := Lib.hid (HI5.out (fun h => h18 h.2.2))
    have b18 : (Pl.at2 xs 18 != 0) = true := by simpa using h18
    clear h12 h13 h18
    go_wp2_with fail
    refine (F18.out _ EW).mono ?_
    rintro e W8 ⟨rfl, q8⟩
    have E8 := EW.trans q8
    have KW8 := KW.ext q8
    have s8 := sto KW8 ⟨0, 0, 0, 0, 0, 0, 0⟩ none 0 0
    clear s0
    go_wp2_with ((apply store_by rfl _ _ _ rfl _ rfl); (focus (with_reducible assumption)); (focus rfl))
    refine bodyPost_ret (results_cell2 Tryd.results33 _ _ w.heap.size 50 #[.int .i64 0, .int .i64 0, .int .i64 0, .int .i64 0, .int .i64 0, .int .i64 0, .int .i64 0, .slice none 0 0] _ rfl (KW8.row _) Tryd.underlying50 rfl Tryd.sizeSeg) rfl (rdecGot_bad HQ5.out (by decide) (E8.row (Nat.le_refl _) _))
  have HI := Lib.hid (show Pl.IsSeg 6 xs from ⟨by rw [HL.out, show Pl.segSize 6 = 20 from rfl]; omega, fun _ => ⟨HX12.out.trans h12, by rw [HX13.out]; exact h13, (H18.out h18).1, (H18.out h18).2⟩, (fun h => by cases h)⟩)
  have b18 : (Pl.at2 xs 18 != 0) = false := by simpa using h18
  rw [HD.out h13] at KG
  clear h12 h13 h18
  go_wp2_with fail
  refine (F18.out _ EW).mono ?_
  rintro e W8 ⟨rfl, q8⟩
  replace EW := EW.trans q8
  replace KW := KW.ext q8
  replace KG := KG.ext q8
  clear q8 s0 c5 d12
  have hok : Pl.SegOk (Pl.decSeg 6 xs) (n - 20) := Pl.decSeg_ok (by decide) HB.out (by omega)
  have ld := KG.seg
  go_wp2_with ((apply load_by rfl _ _ rfl _ rfl); (focus (with_reducible assumption)))
  refine (rcheckOf_any (Pl.decSeg 6 xs) AS (n - 20) (c - 20) (xs.drop 20) over W8 hok (HIS.out _ EW) (HB.out.drop 20) HO.out).mono ?_
  rintro e W3 ⟨rfl, q3⟩
  have E3 := EW.trans q3
  have KW3 := KW.ext q3
  have KG3 := KG.ext q3
  clear ld KW KG q3 EW hok
  by_cases hck : Pl.at2 xs 16 = Pl.segCheck (Pl.decSeg 6 xs) over (xs.drop 20)
  case neg =>
    have HQ6 := Lib.hid (show Pl.segQ 6 xs over = 6 by
      rw [HQ.out, if_neg (fun h => h HI.out), show Pl.segAt 6 = 16 from rfl, show Pl.segSize 6 = 20 from rfl, if_neg hck])
    have hck' : (Pl.at2 xs 16 != Pl.segCheck (Pl.decSeg 6 xs) over (xs.drop 20)) = true := by simpa using hck
    have s0 := sto KW3 ⟨0, 0, 0, 0, 0, 0, 0⟩ none 0 0
    clear hck
    go_wp2_with ((apply store_by rfl _ _ _ rfl _ rfl); (focus (with_reducible assumption)); (focus rfl))
    refine bodyPost_ret (results_cell2 Tryd.results33 _ _ w.heap.size 50 #[.int .i64 0, .int .i64 0, .int .i64 0, .int .i64 0, .int .i64 0, .int .i64 0, .int .i64 0, .slice none 0 0] _ rfl (KW3.row _) Tryd.underlying50 rfl Tryd.sizeSeg) rfl (rdecGot_bad HQ6.out (by decide) (E3.row (Nat.le_refl _) _))
  have HQ0 := Lib.hid (show Pl.segQ 6 xs over = 0 by
    rw [HQ.out, if_neg (fun h => h HI.out), show Pl.segAt 6 = 16 from rfl, show Pl.segSize 6 = 20 from rfl, if_pos hck])
  have hck' : (Pl.at2 xs 16 != Pl.segCheck (Pl.decSeg 6 xs) over (xs.drop 20)) = false := by simpa using hck
  have ld := KG3.seg
  have s2 := sto KW3 (Pl.decSeg 6 xs) AS (n - 20) (c - 20)
  clear hck
  go_wp2_with (first | ((apply load_by rfl _ _ rfl _ rfl); (focus (with_reducible assumption))) | ((apply store_by rfl _ _ _ rfl _ rfl); (focus (with_reducible assumption)); (focus rfl)))
  refine bodyPost_ret (results_cell2 Tryd.results33 _ _ w.heap.size 50 ((Pl.decSeg 6 xs).cells (.slice AS (n - 20) (c - 20))) _ rfl (KW3.row _) Tryd.underlying50 rfl Tryd.sizeSeg) rfl ?_
  refine ⟨AS, n - 20, c - 20, ?_, ?_, E3.row (Nat.le_refl _) _⟩
  · unfold Pl.segV
    rw [HQ0.out, if_pos rfl]
    rfl
  · unfold Pl.segD
    rw [HQ0.out, if_pos rfl]
    exact HIS.out _ (E3.row (Nat.le_refl _) _)
end Go.Proofs.YtkjchddidpjjmaaDoor
