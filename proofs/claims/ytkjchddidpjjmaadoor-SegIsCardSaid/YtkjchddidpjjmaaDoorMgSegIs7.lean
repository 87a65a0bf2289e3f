/- Texts of this seat in one file (RefH6, SegA, RefS, Segs): contracts and plain laws. Conditions: as each lemma states them. -/
import Derived.Test.YtkjchddidpjjmaaDoorMgSegIs1
import Derived.Test.YtkjchddidpjjmaaDoorMgSegIs2
import Derived.Test.YtkjchddidpjjmaaDoorMgSegIs3
import Derived.Test.YtkjchddidpjjmaaDoorMgSegIs4
import Derived.Test.YtkjchddidpjjmaaDoorMgSegIs5
import Derived.Test.YtkjchddidpjjmaaDoorMgSegIs6
/- The document's SegOf: bytes as a segment over something, of TCP. Conditions: as each theorem states them. -/
namespace Go.Proofs.YtkjchddidpjjmaaDoor
open Go.RowKit
set_option maxRecDepth 100000 in
set_option maxHeartbeats 8000000 in
theorem rsegOf_core6 (a : Option Addr) (n c : Nat) (xs : List Int) (over : Int) (w : World) (hr : Ints .u8 w a n xs) (hb : Pl.IsB xs) (hnc : n ≤ c) (hc : a = none → c = 0) (ho : Pl.Word over) (h0 : 20 ≤ n) (h1 : n ≤ 320) :
    Calls Tryd.prog 33 #[.int .i64 6, .slice a n c, .int .i64 over] w (RDecGot 6 xs over w) := by
  obtain ⟨b, off, rfl, hbl, hcell⟩ := hr.at (by omega)
  have hl := hr.len
  have HR := Lib.hid hr
  have HB := Lib.hid hb
  have HO := Lib.hid ho
  have HO' := Lib.hid (w16_word ho)
  have HL := Lib.hid hl
  have KR := Blk.new w 50 #[.int .i64 0, .int .i64 0, .int .i64 0, .int .i64 0, .int .i64 0, .int .i64 0, .int .i64 0, .slice none 0 0]
  have E0 : Ext w (w.alloc (.cells #[.int .i64 0, .int .i64 0, .int .i64 0, .int .i64 0, .int .i64 0, .int .i64 0, .int .i64 0, .slice none 0 0] 50)) := (Ext.refl w).alloc _
  obtain ⟨AS, iS, zS, rS⟩ := slice_tail (some ⟨b, off, none⟩) n c 20 20 rfl (by omega) hnc hc
  have HIS := Lib.hid (fun (W : World) (q : Ext w W) => (iS W xs (hr.ext q)))
  have F0 := Lib.hid (fun (W : World) (q : Ext w W) => rword_ext (some ⟨b, off, none⟩) n c 0 0 rfl xs W (hr.ext q) hb (by omega) (by omega))
  have F2 := Lib.hid (fun (W : World) (q : Ext w W) => rword_ext (some ⟨b, off, none⟩) n c 2 2 rfl xs W (hr.ext q) hb (by omega) (by omega))
  have F6 := Lib.hid (fun (W : World) (q : Ext w W) => rword_ext (some ⟨b, off, none⟩) n c 6 6 rfl xs W (hr.ext q) hb (by omega) (by omega))
  have F4 := Lib.hid (fun (W : World) (q : Ext w W) => rword_ext (some ⟨b, off, none⟩) n c 4 4 rfl xs W (hr.ext q) hb (by omega) (by omega))
  have F8 := Lib.hid (fun (W : World) (q : Ext w W) => rword_ext (some ⟨b, off, none⟩) n c 8 8 rfl xs W (hr.ext q) hb (by omega) (by omega))
  have F10 := Lib.hid (fun (W : World) (q : Ext w W) => rword_ext (some ⟨b, off, none⟩) n c 10 10 rfl xs W (hr.ext q) hb (by omega) (by omega))
  have F14 := Lib.hid (fun (W : World) (q : Ext w W) => rword_ext (some ⟨b, off, none⟩) n c 14 14 rfl xs W (hr.ext q) hb (by omega) (by omega))
  have F16 := Lib.hid (fun (W : World) (q : Ext w W) => rword_ext (some ⟨b, off, none⟩) n c 16 16 rfl xs W (hr.ext q) hb (by omega) (by omega))
  have F18 := Lib.hid (fun (W : World) (q : Ext w W) => rword_ext (some ⟨b, off, none⟩) n c 18 18 rfl xs W (hr.ext q) hb (by omega) (by omega))
  have l0 : ¬ (n : Int) < 20 := by omega
  have l1 : ¬ (320 : Int) < (n : Int) := by omega
  have HCELL := Lib.hid (fun (W : World) (q : Ext w W) j (hj : j < n) => (World.cell?_of_block (a := ⟨b, off + j, none⟩) (Below.block q b hbl)).trans (hcell j hj))
  have HQ := Lib.hid (Pl.segQ_of (k := 6) (over := over) (xs := xs) (by decide) ho)
  clear hcell hr hb ho hl iS zS hc
  go_enter Tryd.func33, Tryd.ntmps33
  go_wp2_with fail
  refine (word_any _ _).mono ?_
  rintro e w' ⟨rfl, rfl⟩
  rw [HO'.out]
  go_upto_region 9 with (fail)
  refine at_worldE (fun W => Ext w W ∧ Blk W w.heap.size 50 #[.int .i64 0, .int .i64 0, .int .i64 0, .int .i64 0, .int .i64 0, .int .i64 0, .int .i64 0, .slice none 0 0]) ⟨E0, KR⟩ ?_
  clear E0 KR
  rintro W0 ⟨E0, KR⟩
  go_cut [10] (fun p wc => ∃ g, p = .pointer (some ⟨g, 0, none⟩) ∧ W0.heap.size ≤ g ∧ Blk wc g 50 ((⟨6, Pl.at2 xs 0, Pl.at2 xs 2, 0, 0, 0, 0⟩ : Sg).cells (.slice AS (n - 20) (c - 20))) ∧ Ext W0 wc)
  case first =>
    have EX : Ext W0 W0.drew := (Ext.refl W0).drew
    refine wp_region_held_drew (S := (fun _ => True)) (by kernel_rfl) trivial (fun hS0 => ?_)
    generalize W0.drew = V0 at *
    (refine wpAnyH_take (i := 0) (v := ?_) rfl (by kernel_rfl) (by kernel_rfl) (by kernel_rfl) (fun _ _ _ h => h) (Or.inl ⟨by rfl, ?_⟩) (by assumption) ?_; rotate_left; focus (intro w hSw; (try dsimp only at hSw); go_simp; try with_reducible rfl); try simp only [Act.put, List.getElem_toArray, List.getElem_cons_succ, List.getElem_cons_zero, List.setIfInBounds_toArray, List.set_cons_zero, List.set_cons_succ])
    (refine wpAnyH_take (i := 1) (v := ?_) rfl (by kernel_rfl) (by kernel_rfl) (by kernel_rfl) (fun _ _ _ h => h) (Or.inl ⟨by rfl, ?_⟩) (by assumption) ?_; rotate_left; focus (intro w hSw; (try dsimp only at hSw); go_simp; try with_reducible rfl); try simp only [Act.put, List.getElem_toArray, List.getElem_cons_succ, List.getElem_cons_zero, List.setIfInBounds_toArray, List.set_cons_zero, List.set_cons_succ])
    (refine wpAnyH_take (i := 3) (v := ?_) rfl (by kernel_rfl) (by kernel_rfl) (by kernel_rfl) (fun _ _ _ h => h) (Or.inl ⟨by rfl, ?_⟩) (by assumption) ?_; rotate_left; focus (intro w hSw; (try dsimp only at hSw); go_simp; try with_reducible rfl); try simp only [Act.put, List.getElem_toArray, List.getElem_cons_succ, List.getElem_cons_zero, List.setIfInBounds_toArray, List.set_cons_zero, List.set_cons_succ])
    (refine wpAnyH_take (i := 5) (v := ?_) rfl (by kernel_rfl) (by kernel_rfl) (by kernel_rfl) (fun _ _ _ h => h) (Or.inl ⟨by rfl, ?_⟩) (by assumption) ?_; rotate_left; focus (intro w hSw; (try dsimp only at hSw); go_simp; try with_reducible rfl); try simp only [Act.put, List.getElem_toArray, List.getElem_cons_succ, List.getElem_cons_zero, List.setIfInBounds_toArray, List.set_cons_zero, List.set_cons_succ])
    (refine wpAnyH_take (i := 6) (v := ?_) rfl (by kernel_rfl) (by kernel_rfl) (by kernel_rfl) (fun _ _ _ h => h) (Or.inl ⟨by rfl, ?_⟩) (by assumption) ?_; rotate_left; focus (intro w hSw; (try dsimp only at hSw); go_simp; try with_reducible rfl); try simp only [Act.put, List.getElem_toArray, List.getElem_cons_succ, List.getElem_cons_zero, List.setIfInBounds_toArray, List.set_cons_zero, List.set_cons_succ])
    (refine wpAnyH_take (i := 7) (v := ?_) rfl (by kernel_rfl) (by kernel_rfl) (by kernel_rfl) (fun _ _ _ h => h) (Or.inl ⟨by rfl, ?_⟩) (by assumption) ?_; rotate_left; focus (intro w hSw; (try dsimp only at hSw); go_simp; try with_reducible rfl); try simp only [Act.put, List.getElem_toArray, List.getElem_cons_succ, List.getElem_cons_zero, List.setIfInBounds_toArray, List.set_cons_zero, List.set_cons_succ])
    refine wpAnyH_ready (rs := [2, 9]) (by kernel_rfl) (by simp) ?_
    refine AllReadyH.cons rfl (fun K hK => ?_) (AllReadyH.cons rfl (fun K hK => ?_) AllReadyH.nil)
    · go_simp
      go_at_call 68
      refine (F0.out _ (E0.trans EX)).mono ?_
      rintro e V1 ⟨rfl, q⟩
      replace EX := EX.trans q
      refine hK.out _ _ trivial ?_
      clear hK K q
      intro hS
      (try simp only [Act.put, List.getElem_toArray, List.getElem_cons_succ, List.getElem_cons_zero, List.setIfInBounds_toArray, List.set_cons_zero, List.set_cons_succ])
      refine wpAnyH_ready (rs := [4, 9]) (by kernel_rfl) (by simp) ?_
      refine AllReadyH.cons rfl (fun K hK => ?_) (AllReadyH.cons rfl (fun K hK => ?_) AllReadyH.nil)
      · go_simp
        go_at_call 68
        refine (F2.out _ (E0.trans EX)).mono ?_
        rintro e V2 ⟨rfl, q⟩
        replace EX := EX.trans q
        refine hK.out _ _ trivial ?_
        clear hK K q
        intro hS
        (try simp only [Act.put, List.getElem_toArray, List.getElem_cons_succ, List.getElem_cons_zero, List.setIfInBounds_toArray, List.set_cons_zero, List.set_cons_succ])
        (refine wpAnyH_take (i := 8) (v := ?_) rfl (by kernel_rfl) (by kernel_rfl) (by kernel_rfl) (fun _ _ _ h => h) (Or.inl ⟨by rfl, ?_⟩) (by assumption) ?_; rotate_left; focus (intro w hSw; (try dsimp only at hSw); go_simp; try with_reducible rfl); try simp only [Act.put, List.getElem_toArray, List.getElem_cons_succ, List.getElem_cons_zero, List.setIfInBounds_toArray, List.set_cons_zero, List.set_cons_succ])
        refine wpAnyH_ready (rs := [9]) (by kernel_rfl) (by simp) ?_
        refine AllReadyH.cons rfl (fun K hK => ?_) AllReadyH.nil
        · go_simp
          have KG := Blk.new V2 50 #[.int .i64 0, .int .i64 0, .int .i64 0, .int .i64 0, .int .i64 0, .int .i64 0, .int .i64 0, .slice none 0 0]
          have EX3 := EX.alloc (.cells #[.int .i64 0, .int .i64 0, .int .i64 0, .int .i64 0, .int .i64 0, .int .i64 0, .int .i64 0, .slice none 0 0] 50)
          have hgl : W0.heap.size ≤ V2.heap.size := EX.size
          refine hK.out _ _ trivial ?_
          clear hK K
          intro hS
          clear EX
          generalize V2.alloc (.cells #[.int .i64 0, .int .i64 0, .int .i64 0, .int .i64 0, .int .i64 0, .int .i64 0, .int .i64 0, .slice none 0 0] 50) = V3 at *
          have EX := EX3
          clear EX3
          generalize V2.heap.size = g at *
          (try simp only [Act.put, List.getElem_toArray, List.getElem_cons_succ, List.getElem_cons_zero, List.setIfInBounds_toArray, List.set_cons_zero, List.set_cons_succ])
          (refine wpAnyH_ready (rs := [10]) (by kernel_rfl) (by simp) ?_; refine AllReadyH.cons rfl (fun K hK => ?_) AllReadyH.nil)
          rw [if_pos (by rfl)]
          refine wp_store_by _ _ _ rfl _ rfl (sto KG ⟨6, Pl.at2 xs 0, Pl.at2 xs 2, 0, 0, 0, 0⟩ AS (n - 20) (c - 20)) rfl ?_
          refine hK.out _ _ trivial ?_
          clear hK K
          intro hS
          (try simp only [Act.put])
          refine wpAnyH_done (by kernel_rfl) ?_ _
          have K8 := KG.row ((⟨6, Pl.at2 xs 0, Pl.at2 xs 2, 0, 0, 0, 0⟩ : Sg).cells (.slice AS (n - 20) (c - 20)))
          have E8 := EX.row hgl ((⟨6, Pl.at2 xs 0, Pl.at2 xs 2, 0, 0, 0, 0⟩ : Sg).cells (.slice AS (n - 20) (c - 20)))
          go_wp2_with fail
          go_meet
          exact ⟨_, rfl, hgl, K8, E8⟩
      · go_simp
        have KG := Blk.new V1 50 #[.int .i64 0, .int .i64 0, .int .i64 0, .int .i64 0, .int .i64 0, .int .i64 0, .int .i64 0, .slice none 0 0]
        have EX2 := EX.alloc (.cells #[.int .i64 0, .int .i64 0, .int .i64 0, .int .i64 0, .int .i64 0, .int .i64 0, .int .i64 0, .slice none 0 0] 50)
        have hgl : W0.heap.size ≤ V1.heap.size := EX.size
        refine hK.out _ _ trivial ?_
        clear hK K
        intro hS
        clear EX
        generalize V1.alloc (.cells #[.int .i64 0, .int .i64 0, .int .i64 0, .int .i64 0, .int .i64 0, .int .i64 0, .int .i64 0, .slice none 0 0] 50) = V2 at *
        have EX := EX2
        clear EX2
        generalize V1.heap.size = g at *
        (try simp only [Act.put, List.getElem_toArray, List.getElem_cons_succ, List.getElem_cons_zero, List.setIfInBounds_toArray, List.set_cons_zero, List.set_cons_succ])
        refine wpAnyH_ready (rs := [4]) (by kernel_rfl) (by simp) ?_
        refine AllReadyH.cons rfl (fun K hK => ?_) AllReadyH.nil
        · go_simp
          go_at_call 68
          refine (F2.out _ (E0.trans EX)).mono ?_
          rintro e V3 ⟨rfl, q⟩
          replace EX := EX.trans q
          replace KG := KG.ext q
          refine hK.out _ _ trivial ?_
          clear hK K q
          intro hS
          (try simp only [Act.put, List.getElem_toArray, List.getElem_cons_succ, List.getElem_cons_zero, List.setIfInBounds_toArray, List.set_cons_zero, List.set_cons_succ])
          (refine wpAnyH_take (i := 8) (v := ?_) rfl (by kernel_rfl) (by kernel_rfl) (by kernel_rfl) (fun _ _ _ h => h) (Or.inl ⟨by rfl, ?_⟩) (by assumption) ?_; rotate_left; focus (intro w hSw; (try dsimp only at hSw); go_simp; try with_reducible rfl); try simp only [Act.put, List.getElem_toArray, List.getElem_cons_succ, List.getElem_cons_zero, List.setIfInBounds_toArray, List.set_cons_zero, List.set_cons_succ])
          (refine wpAnyH_ready (rs := [10]) (by kernel_rfl) (by simp) ?_; refine AllReadyH.cons rfl (fun K hK => ?_) AllReadyH.nil)
          rw [if_pos (by rfl)]
          refine wp_store_by _ _ _ rfl _ rfl (sto KG ⟨6, Pl.at2 xs 0, Pl.at2 xs 2, 0, 0, 0, 0⟩ AS (n - 20) (c - 20)) rfl ?_
          refine hK.out _ _ trivial ?_
          clear hK K
          intro hS
          (try simp only [Act.put, List.getElem_toArray, List.getElem_cons_succ, List.getElem_cons_zero, List.setIfInBounds_toArray, List.set_cons_zero, List.set_cons_succ])
          refine wpAnyH_done (by kernel_rfl) ?_ _
          have K8 := KG.row ((⟨6, Pl.at2 xs 0, Pl.at2 xs 2, 0, 0, 0, 0⟩ : Sg).cells (.slice AS (n - 20) (c - 20)))
          have E8 := EX.row hgl ((⟨6, Pl.at2 xs 0, Pl.at2 xs 2, 0, 0, 0, 0⟩ : Sg).cells (.slice AS (n - 20) (c - 20)))
          go_wp2_with fail
          go_meet
          exact ⟨_, rfl, hgl, K8, E8⟩
    · go_simp
      have KG := Blk.new V0 50 #[.int .i64 0, .int .i64 0, .int .i64 0, .int .i64 0, .int .i64 0, .int .i64 0, .int .i64 0, .slice none 0 0]
      have EX1 := EX.alloc (.cells #[.int .i64 0, .int .i64 0, .int .i64 0, .int .i64 0, .int .i64 0, .int .i64 0, .int .i64 0, .slice none 0 0] 50)
      have hgl : W0.heap.size ≤ V0.heap.size := EX.size
      refine hK.out _ _ trivial ?_
      clear hK K
      intro hS
      clear EX
      generalize V0.alloc (.cells #[.int .i64 0, .int .i64 0, .int .i64 0, .int .i64 0, .int .i64 0, .int .i64 0, .int .i64 0, .slice none 0 0] 50) = V1 at *
      have EX := EX1
      clear EX1
      generalize V0.heap.size = g at *
      (try simp only [Act.put, List.getElem_toArray, List.getElem_cons_succ, List.getElem_cons_zero, List.setIfInBounds_toArray, List.set_cons_zero, List.set_cons_succ])
      refine wpAnyH_ready (rs := [2]) (by kernel_rfl) (by simp) ?_
      refine AllReadyH.cons rfl (fun K hK => ?_) AllReadyH.nil
      · go_simp
        go_at_call 68
        refine (F0.out _ (E0.trans EX)).mono ?_
        rintro e V2 ⟨rfl, q⟩
        replace EX := EX.trans q
        replace KG := KG.ext q
        refine hK.out _ _ trivial ?_
        clear hK K q
        intro hS
        (try simp only [Act.put, List.getElem_toArray, List.getElem_cons_succ, List.getElem_cons_zero, List.setIfInBounds_toArray, List.set_cons_zero, List.set_cons_succ])
        refine wpAnyH_ready (rs := [4]) (by kernel_rfl) (by simp) ?_
        refine AllReadyH.cons rfl (fun K hK => ?_) AllReadyH.nil
        · go_simp
          go_at_call 68
          refine (F2.out _ (E0.trans EX)).mono ?_
          rintro e V3 ⟨rfl, q⟩
          replace EX := EX.trans q
          replace KG := KG.ext q
          refine hK.out _ _ trivial ?_
          clear hK K q
          intro hS
          (try simp only [Act.put, List.getElem_toArray, List.getElem_cons_succ, List.getElem_cons_zero, List.setIfInBounds_toArray, List.set_cons_zero, List.set_cons_succ])
          (refine wpAnyH_take (i := 8) (v := ?_) rfl (by kernel_rfl) (by kernel_rfl) (by kernel_rfl) (fun _ _ _ h => h) (Or.inl ⟨by rfl, ?_⟩) (by assumption) ?_; rotate_left; focus (intro w hSw; (try dsimp only at hSw); go_simp; try with_reducible rfl); try simp only [Act.put, List.getElem_toArray, List.getElem_cons_succ, List.getElem_cons_zero, List.setIfInBounds_toArray, List.set_cons_zero, List.set_cons_succ])
          (refine wpAnyH_ready (rs := [10]) (by kernel_rfl) (by simp) ?_; refine AllReadyH.cons rfl (fun K hK => ?_) AllReadyH.nil)
          rw [if_pos (by rfl)]
          refine wp_store_by _ _ _ rfl _ rfl (sto KG ⟨6, Pl.at2 xs 0, Pl.at2 xs 2, 0, 0, 0, 0⟩ AS (n - 20) (c - 20)) rfl ?_
          refine hK.out _ _ trivial ?_
          clear hK K
          intro hS
          (try simp only [Act.put, List.getElem_toArray, List.getElem_cons_succ, List.getElem_cons_zero, List.setIfInBounds_toArray, List.set_cons_zero, List.set_cons_succ])
          refine wpAnyH_done (by kernel_rfl) ?_ _
          have K8 := KG.row ((⟨6, Pl.at2 xs 0, Pl.at2 xs 2, 0, 0, 0, 0⟩ : Sg).cells (.slice AS (n - 20) (c - 20)))
          have E8 := EX.row hgl ((⟨6, Pl.at2 xs 0, Pl.at2 xs 2, 0, 0, 0, 0⟩ : Sg).cells (.slice AS (n - 20) (c - 20)))
          go_wp2_with fail
          go_meet
          exact ⟨_, rfl, hgl, K8, E8⟩
  obtain ⟨g, rfl, hgl, KG, EG⟩ := hcut
  have EW := E0.trans EG
  have KW := KR.ext EG
  have hww := KW.lt
  have hgw : w.heap.size ≠ g := by have := KR.lt; omega
  have hwg : w.heap.size ≤ g := by have := E0.size; omega
  have hgb : g ≠ b := by have := E0.size; omega
  clear E0 EG KR F0 F2 hgl
  generalize W0.heap.size = Z0 at *
  obtain ⟨y4, z4⟩ := Pl.at2_rng HB.out 4
  obtain ⟨y6, z6⟩ := Pl.at2_rng HB.out 6
  obtain ⟨y8, z8⟩ := Pl.at2_rng HB.out 8
  obtain ⟨y10, z10⟩ := Pl.at2_rng HB.out 10
  obtain ⟨y14, z14⟩ := Pl.at2_rng HB.out 14
  obtain ⟨y18, z18⟩ := Pl.at2_rng HB.out 18
  have y12 := HB.out.getD 12
  have y13 := HB.out.getD 13
  have HD := Lib.hid (show xs.getD 13 0 ≤ 31 → (⟨6, Pl.at2 xs 0, Pl.at2 xs 2, 65536 * Pl.at2 xs 4 + Pl.at2 xs 6, 65536 * Pl.at2 xs 8 + Pl.at2 xs 10, xs.getD 13 0, Pl.at2 xs 14⟩ : Sg) = Pl.decSeg 6 xs from fun h => by
    unfold Pl.decSeg
    rw [if_pos rfl, Int.mul_comm 65536 (Pl.at2 xs 4), Int.mul_comm 65536 (Pl.at2 xs 8), show xs.getD 13 0 % 32 = xs.getD 13 0 by omega])
  have H18 := Lib.hid (show Pl.at2 xs 18 = 0 → xs.getD 18 0 = 0 ∧ xs.getD 19 0 = 0 from fun h => by
    have h18 := HB.out.getD 18
    have h19 := HB.out.getD 19
    have h' : xs.getD 18 0 * 256 + xs.getD 19 0 = 0 := h
    omega)
  have H18' := Lib.hid (show xs.getD 18 0 = 0 ∧ xs.getD 19 0 = 0 → Pl.at2 xs 18 = 0 from fun h => by show xs.getD 18 0 * 256 + xs.getD 19 0 = 0; omega)
  obtain ⟨X12, hX12⟩ : ∃ x, xs.getD 12 0 = x := ⟨_, rfl⟩
  obtain ⟨X13, hX13⟩ : ∃ x, xs.getD 13 0 = x := ⟨_, rfl⟩
  rw [hX12] at y12
  rw [hX13] at y13 HD
  have HX12 := Lib.hid hX12
  have HX13 := Lib.hid hX13
  have C12 := Lib.hid (fun (W : World) (q : Ext w W) => hX12 ▸ HCELL.out W q 12 (by omega))
  have C13 := Lib.hid (fun (W : World) (q : Ext w W) => hX13 ▸ HCELL.out W q 13 (by omega))
  clear hX12 hX13
  have m1 : IntKind.i64.wrap X13 = X13 := IntWalk.i64_in _ (by omega)
  have l12 : (12 : Int) < (n : Int) := by omega
  have l13 : (13 : Int) < (n : Int) := by omega
  go_wp2_with fail
  refine (F6.out wc EW).mono ?_
  rintro e W1 ⟨rfl, q1⟩
  replace EW := EW.trans q1
  replace KW := KW.ext q1
  replace KG := KG.ext q1
  clear q1
  go_wp2_with fail
  refine (F4.out W1 EW).mono ?_
  rintro e W2 ⟨rfl, q2⟩
  replace EW := EW.trans q2
  replace KW := KW.ext q2
  replace KG := KG.ext q2
  clear q2
  go_wp2_with fail
  refine (F6.out W2 EW).mono ?_
  rintro e W3 ⟨rfl, q3⟩
  replace EW := EW.trans q3
  replace KW := KW.ext q3
  replace KG := KG.ext q3
  clear q3
  have t0 := KG.sti 3 (65536 * Pl.at2 xs 4 + Pl.at2 xs 6) (by simp [Sg.cells])
  replace EW := EW.set (p := ⟨g, 3, none⟩) hwg (.int .i64 (65536 * Pl.at2 xs 4 + Pl.at2 xs 6))
  replace KW := KW.far (p := ⟨g, 3, none⟩) hgw (.int .i64 (65536 * Pl.at2 xs 4 + Pl.at2 xs 6))
  replace KG : Blk _ g 50 ((⟨6, Pl.at2 xs 0, Pl.at2 xs 2, 65536 * Pl.at2 xs 4 + Pl.at2 xs 6, 0, 0, 0⟩ : Sg).cells (.slice AS (n - 20) (c - 20))) := KG.put 3 (.int .i64 (65536 * Pl.at2 xs 4 + Pl.at2 xs 6))
  go_wp2_with ((apply store_by rfl _ _ _ rfl _ rfl); (focus (with_reducible assumption)); (focus rfl))
  refine (F8.out _ EW).mono ?_
  rintro e W4 ⟨rfl, q4⟩
  replace EW := EW.trans q4
  replace KW := KW.ext q4
  replace KG := KG.ext q4
  clear q4
  clear t0
  go_wp2_with fail
  refine (F10.out W4 EW).mono ?_
  rintro e W5 ⟨rfl, q5⟩
  replace EW := EW.trans q5
  replace KW := KW.ext q5
  replace KG := KG.ext q5
  clear q5
  have t0 := KG.sti 4 (65536 * Pl.at2 xs 8 + Pl.at2 xs 10) (by simp [Sg.cells])
  replace EW := EW.set (p := ⟨g, 4, none⟩) hwg (.int .i64 (65536 * Pl.at2 xs 8 + Pl.at2 xs 10))
  replace KW := KW.far (p := ⟨g, 4, none⟩) hgw (.int .i64 (65536 * Pl.at2 xs 8 + Pl.at2 xs 10))
  replace KG : Blk _ g 50 ((⟨6, Pl.at2 xs 0, Pl.at2 xs 2, 65536 * Pl.at2 xs 4 + Pl.at2 xs 6, 65536 * Pl.at2 xs 8 + Pl.at2 xs 10, 0, 0⟩ : Sg).cells (.slice AS (n - 20) (c - 20))) := KG.put 4 (.int .i64 (65536 * Pl.at2 xs 8 + Pl.at2 xs 10))
  have d13 := C13.out _ EW
  have t1 := KG.sti 5 X13 (by simp [Sg.cells])
  replace EW := EW.set (p := ⟨g, 5, none⟩) hwg (.int .i64 X13)
  replace KW := KW.far (p := ⟨g, 5, none⟩) hgw (.int .i64 X13)
  replace KG : Blk _ g 50 ((⟨6, Pl.at2 xs 0, Pl.at2 xs 2, 65536 * Pl.at2 xs 4 + Pl.at2 xs 6, 65536 * Pl.at2 xs 8 + Pl.at2 xs 10, X13, 0⟩ : Sg).cells (.slice AS (n - 20) (c - 20))) := KG.put 5 (.int .i64 X13)
  go_wp2_with ((apply store_by rfl _ _ _ rfl _ rfl); (focus (with_reducible assumption)); (focus rfl))
  refine (F14.out _ EW).mono ?_
  rintro e W6 ⟨rfl, q6⟩
  replace EW := EW.trans q6
  replace KW := KW.ext q6
  replace KG := KG.ext q6
  clear q6 t0 t1 d13
  have t0 := KG.sti 6 (Pl.at2 xs 14) (by simp [Sg.cells])
  replace EW := EW.set (p := ⟨g, 6, none⟩) hwg (.int .i64 (Pl.at2 xs 14))
  replace KW := KW.far (p := ⟨g, 6, none⟩) hgw (.int .i64 (Pl.at2 xs 14))
  replace KG : Blk _ g 50 ((⟨6, Pl.at2 xs 0, Pl.at2 xs 2, 65536 * Pl.at2 xs 4 + Pl.at2 xs 6, 65536 * Pl.at2 xs 8 + Pl.at2 xs 10, X13, Pl.at2 xs 14⟩ : Sg).cells (.slice AS (n - 20) (c - 20))) := KG.put 6 (.int .i64 (Pl.at2 xs 14))
  go_wp2_with ((apply store_by rfl _ _ _ rfl _ rfl); (focus (with_reducible assumption)); (focus rfl))
  refine (F16.out _ EW).mono ?_
  rintro e W7 ⟨rfl, q7⟩
  replace EW := EW.trans q7
  replace KW := KW.ext q7
  replace KG := KG.ext q7
  clear q7
  clear t0
  have d12 := C12.out _ EW
  have c5 : W7.cell? ⟨g, 5, none⟩ = some (.int .i64 X13) := KG.cells 5
  have s0 := sto KW ⟨0, 0, 0, 0, 0, 0, 0⟩ none 0 0
  have HI5 : Hid (¬ (X12 = 80 ∧ X13 ≤ 31 ∧ Pl.at2 xs 18 = 0) → Pl.segQ 6 xs over = 5) := Lib.hid (fun h => by
    rw [HQ.out, if_pos]
    rintro ⟨_, h6, _⟩
    obtain ⟨h1, h2, h3, h4⟩ := h6 rfl
    exact h ⟨HX12.out ▸ h1, HX13.out ▸ h2, H18'.out ⟨h3, h4⟩⟩)
  by_cases h12 : X12 = 80
  case neg =>
    have HQ5 := Lib.hid (HI5.out (fun h => h12 h.1))
    have b12 : (X12 != 80) = true := by simpa using h12
    clear h12
    go_wp2_with ((apply store_by rfl _ _ _ rfl _ rfl); (focus (with_reducible assumption)); (focus rfl))
    refine bodyPost_ret (results_cell2 Tryd.results33 _ _ w.heap.size 50 #[.int .i64 0, .int .i64 0, .int .i64 0, .int .i64 0, .int .i64 0, .int .i64 0, .int .i64 0, .slice none 0 0] _ rfl (KW.row _) Tryd.underlying50 rfl Tryd.sizeSeg) rfl (rdecGot_bad HQ5.out (by decide) (EW.row (Nat.le_refl _) _))
  have b12 : (X12 != 80) = false := by simpa using h12
  by_cases h13 : X13 ≤ 31
  case neg =>
    have HQ5 := Lib.hid (HI5.out (fun h => h13 h.2.1))
    have b13 : 31 < X13 := by omega
    clear h13 h12
    go_wp2_with ((apply store_by rfl _ _ _ rfl _ rfl); (focus (with_reducible assumption)); (focus rfl))
    refine bodyPost_ret (results_cell2 Tryd.results33 _ _ w.heap.size 50 #[.int .i64 0, .int .i64 0, .int .i64 0, .int .i64 0, .int .i64 0, .int .i64 0, .int .i64 0, .slice none 0 0] _ rfl (KW.row _) Tryd.underlying50 rfl Tryd.sizeSeg) rfl (rdecGot_bad HQ5.out (by decide) (EW.row (Nat.le_refl _) _))
  have b13 : ¬ 31 < X13 := by omega
  by_cases h18 : Pl.at2 xs 18 = 0
  case neg =>
    have HQ5 := Lib.hid (HI5.out (fun h => h18 h.2.2))
    have b18 : (Pl.at2 xs 18 != 0) = true := by simpa using h18
    clear h12 h13 h18
    go_wp2_with fail
    refine (F18.out _ EW).mono ?_
    rintro e W8 ⟨rfl, q8⟩
    have E8 := EW.trans q8
    have KW8 := KW.ext q8
    have s8 := sto KW8 ⟨0, 0, 0, 0, 0, 0, 0⟩ none 0 0
    clear s0
    go_wp2_with ((apply store_by rfl _ _ _ rfl _ rfl); (focus (with_reducible assumption)); (focus rfl))
    refine bodyPost_ret (results_cell2 Tryd.results33 _ _ w.heap.size 50 #[.int .i64 0, .int .i64 0, .int .i64 0, .int .i64 0, .int .i64 0, .int .i64 0, .int .i64 0, .slice none 0 0] _ rfl (KW8.row _) Tryd.underlying50 rfl Tryd.sizeSeg) rfl (rdecGot_bad HQ5.out (by decide) (E8.row (Nat.le_refl _) _))
  have HI := Lib.hid (show Pl.IsSeg 6 xs from ⟨by rw [HL.out, show Pl.segSize 6 = 20 from rfl]; omega, fun _ => ⟨HX12.out.trans h12, by rw [HX13.out]; exact h13, (H18.out h18).1, (H18.out h18).2⟩, (fun h => by cases h)⟩)
  have b18 : (Pl.at2 xs 18 != 0) = false := by simpa using h18
  rw [HD.out h13] at KG
  clear h12 h13 h18
  go_wp2_with fail
  refine (F18.out _ EW).mono ?_
  rintro e W8 ⟨rfl, q8⟩
  replace EW := EW.trans q8
  replace KW := KW.ext q8
  replace KG := KG.ext q8
  clear q8 s0 c5 d12
  have hok : Pl.SegOk (Pl.decSeg 6 xs) (n - 20) := Pl.decSeg_ok (by decide) HB.out (by omega)
  have ld := KG.seg
  go_wp2_with ((apply load_by rfl _ _ rfl _ rfl); (focus (with_reducible assumption)))
  refine (rcheckOf_any (Pl.decSeg 6 xs) AS (n - 20) (c - 20) (xs.drop 20) over W8 hok (HIS.out _ EW) (HB.out.drop 20) HO.out).mono ?_
  rintro e W3 ⟨rfl, q3⟩
  have E3 := EW.trans q3
  have KW3 := KW.ext q3
  have KG3 := KG.ext q3
  clear ld KW KG q3 EW hok
  by_cases hck : Pl.at2 xs 16 = Pl.segCheck (Pl.decSeg 6 xs) over (xs.drop 20)
  case neg =>
    have HQ6 := Lib.hid (show Pl.segQ 6 xs over = 6 by
      rw [HQ.out, if_neg (fun h => h HI.out), show Pl.segAt 6 = 16 from rfl, show Pl.segSize 6 = 20 from rfl, if_neg hck])
    have hck' : (Pl.at2 xs 16 != Pl.segCheck (Pl.decSeg 6 xs) over (xs.drop 20)) = true := by simpa using hck
    have s0 := sto KW3 ⟨0, 0, 0, 0, 0, 0, 0⟩ none 0 0
    clear hck
    go_wp2_with ((apply store_by rfl _ _ _ rfl _ rfl); (focus (with_reducible assumption)); (focus rfl))
    refine bodyPost_ret (results_cell2 Tryd.results33 _ _ w.heap.size 50 #[.int .i64 0, .int .i64 0, .int .i64 0, .int .i64 0, .int .i64 0, .int .i64 0, .int .i64 0, .slice none 0 0] _ rfl (KW3.row _) Tryd.underlying50 rfl Tryd.sizeSeg) rfl (rdecGot_bad HQ6.out (by decide) (E3.row (Nat.le_refl _) _))
  have HQ0 := Lib.hid (show Pl.segQ 6 xs over = 0 by
    rw [HQ.out, if_neg (fun h => h HI.out), show Pl.segAt 6 = 16 from rfl, show Pl.segSize 6 = 20 from rfl, if_pos hck])
  have hck' : (Pl.at2 xs 16 != Pl.segCheck (Pl.decSeg 6 xs) over (xs.drop 20)) = false := by simpa using hck
  have ld := KG3.seg
  have s2 := sto KW3 (Pl.decSeg 6 xs) AS (n - 20) (c - 20)
  clear hck
  go_wp2_with (first | ((apply load_by rfl _ _ rfl _ rfl); (focus (with_reducible assumption))) | ((apply store_by rfl _ _ _ rfl _ rfl); (focus (with_reducible assumption)); (focus rfl)))
  refine bodyPost_ret (results_cell2 Tryd.results33 _ _ w.heap.size 50 ((Pl.decSeg 6 xs).cells (.slice AS (n - 20) (c - 20))) _ rfl (KW3.row _) Tryd.underlying50 rfl Tryd.sizeSeg) rfl ?_
  refine ⟨AS, n - 20, c - 20, ?_, ?_, E3.row (Nat.le_refl _) _⟩
  · unfold Pl.segV
    rw [HQ0.out, if_pos rfl]
    rfl
  · unfold Pl.segD
    rw [HQ0.out, if_pos rfl]
    exact HIS.out _ (E3.row (Nat.le_refl _) _)
end Go.Proofs.YtkjchddidpjjmaaDoor
/- seg.Decode and the document's SegOf of any bytes, any kind. Conditions: as each theorem states them. -/
namespace Go.Proofs.YtkjchddidpjjmaaDoor
open Go.RowKit
theorem sdecode_any (k : Int) (a : Option Addr) (n c : Nat) (xs : List Int) (over : Int) (w : World) (hr : Ints .u8 w a n xs) (hb : Pl.IsB xs) (hnc : n ≤ c) (hc : a = none → c = 0) :
    Calls Tryd.prog 34 #[.int .i64 k, .slice a n c, .int .i64 over] w (DecGot k xs over w) := by
  by_cases hk : k = 6 ∨ k = 17
  case neg => exact sdecode_bad k a n c xs over w (.inl hk)
  by_cases ho : Pl.Word over
  case neg => exact sdecode_bad k a n c xs over w (.inr ho)
  rcases hk with rfl | rfl
  · by_cases h0 : 20 ≤ n ∧ n ≤ 320
    · exact sdecode_core6 a n c xs over w hr hb hnc hc ho h0.1 h0.2
    · exact sdecode_short6 a n c xs over w hr ho (by omega)
  · by_cases h0 : 8 ≤ n ∧ n ≤ 308
    · exact sdecode_core17 a n c xs over w hr hb hnc hc ho h0.1 h0.2
    · exact sdecode_short17 a n c xs over w hr ho (by omega)
theorem rsegOf_any (k : Int) (a : Option Addr) (n c : Nat) (xs : List Int) (over : Int) (w : World) (hr : Ints .u8 w a n xs) (hb : Pl.IsB xs) (hnc : n ≤ c) (hc : a = none → c = 0) :
    Calls Tryd.prog 33 #[.int .i64 k, .slice a n c, .int .i64 over] w (RDecGot k xs over w) := by
  by_cases hk : k = 6 ∨ k = 17
  case neg => exact rsegOf_bad k a n c xs over w (.inl hk)
  by_cases ho : Pl.Word over
  case neg => exact rsegOf_bad k a n c xs over w (.inr ho)
  rcases hk with rfl | rfl
  · by_cases h0 : 20 ≤ n ∧ n ≤ 320
    · exact rsegOf_core6 a n c xs over w hr hb hnc hc ho h0.1 h0.2
    · exact rsegOf_short6 a n c xs over w hr ho (by omega)
  · by_cases h0 : 8 ≤ n ∧ n ≤ 308
    · exact rsegOf_core17 a n c xs over w hr hb hnc hc ho h0.1 h0.2
    · exact rsegOf_short17 a n c xs over w hr ho (by omega)
/-- Bytes, when another block is written anew. -/
theorem Ints.keepRow {k : IntKind} {w : World} {a : Option Addr} {n : Nat} {xs : List Int} (h : Ints k w a n xs) (g : Nat) (cs : Array Value) (hg : 0 < n → ∀ p, a = some p → p.block ≠ g) : Ints k (w.setRow g cs) a n xs := by
  by_cases hn : 0 < n
  · obtain ⟨b, off, rfl, hb, hc⟩ := h.at hn
    exact ⟨h.1, .inr ⟨b, off, rfl, fun i hi => (World.cell?_of_block (setRow_other w g b cs (hg hn _ rfl))).trans (hc i hi)⟩⟩
  · obtain rfl : n = 0 := by omega
    obtain rfl : xs = [] := List.length_eq_zero_iff.1 h.len
    exact Ints.nil
/-- A load whose run is known, in a region. -/
theorem exec_load {P : Program} {ρ : Operand → Value} {o : Oper} {w : World} {v : Value} {p : Addr} {ty : TypeId} {x : Operand} (ho : o.op = .load ty x) (hx : ρ x = .pointer (some p)) (h : (Instr.loadAt ty (.pointer (some p))).run P w = .ok v w) :
    (execOp ρ o).run P w = .ok (.value v) w := by
  unfold execOp
  simp only [ho, hx, Sem.run_bind, h, Result.andThen_ok, Sem.run_pure]
/-- The fault, as both tell it. -/
theorem chk_any (s : Sg) (a : Option Addr) (n c : Nat) (w : World) : Calls Tryd.prog 28 #[s.v (.slice a n c)] w fun e w' => e = .returned (erv (Pl.segFault s n)) ∧ Ext w w' :=
  (scheck_any s a n c w).mono fun _ _ ⟨h, q⟩ => ⟨h, q⟩
end Go.Proofs.YtkjchddidpjjmaaDoor
/- The document's answers on segments of a stream: SegFault. Conditions: as each theorem states them. -/
namespace Go.Proofs.YtkjchddidpjjmaaDoor
open Go.RowKit
theorem w16_of {n : Int} (h : 0 ≤ n ∧ n ≤ 65535) : w16 n = true := by unfold w16; simpa using h
theorem w16_not {n : Int} (h : ¬ (0 ≤ n ∧ n ≤ 65535)) : w16 n = false := by
  cases hw : w16 n
  · rfl
  · exact absurd (w16_yes hw) h
set_option maxRecDepth 100000 in
set_option maxHeartbeats 4000000 in
theorem rsegFault_any (s : Sg) (a : Option Addr) (n c : Nat) (w : World) :
    Calls Tryd.prog 27 #[s.v (.slice a n c)] w fun e w' => e = .returned (.int .i64 (Pl.segFault s n)) ∧ Ext w w' := by
  have K0 := Blk.new w 50 (s.cells (.slice a n c))
  have E0 : Ext w (w.alloc (.cells (s.cells (.slice a n c)) 50)) := (Ext.refl w).alloc _
  obtain ⟨c0, c1, c2, c3, c4, c5, c6, c7⟩ := K0.sg
  clear K0
  obtain ⟨k, f, t, q, m, fl, wi⟩ := s
  dsimp only at c0 c1 c2 c3 c4 c5 c6 c7
  have HC := Lib.hid (show ∀ r, Pl.segFault ⟨k, f, t, q, m, fl, wi⟩ n = r → Pl.segFault ⟨k, f, t, q, m, fl, wi⟩ n = r from fun _ h => h)
  obtain ⟨F, hF⟩ : ∃ F, Pl.segFault ⟨k, f, t, q, m, fl, wi⟩ n = F := ⟨_, rfl⟩
  rw [hF]
  unfold Pl.segFault Pl.Word at hF
  dsimp only at hF
  have HF := Lib.hid hF
  obtain ⟨bf, hbf⟩ : ∃ b, w16 f = b := ⟨_, rfl⟩
  obtain ⟨bt, hbt⟩ : ∃ b, w16 t = b := ⟨_, rfl⟩
  obtain ⟨bw, hbw⟩ : ∃ b, w16 wi = b := ⟨_, rfl⟩
  have HBF := Lib.hid hbf
  have HBT := Lib.hid hbt
  have HBW := Lib.hid hbw
  clear hF hbf hbt hbw HC
  go_enter Tryd.func27, Tryd.ntmps27
  go_wp2_with fail
  refine (word_any _ _).mono ?_
  rintro e' w' ⟨rfl, rfl⟩
  rw [HBF.out]
  go_wp2_with fail
  refine (word_any _ _).mono ?_
  rintro e' w' ⟨rfl, rfl⟩
  rw [HBT.out]
  by_cases hk : k = 6 ∨ k = 17
  case neg =>
    have e6 : (k != 6) = true := by simp; omega
    have e17 : (k != 17) = true := by simp; omega
    have HZ := Lib.hid (show F = 1 by have := HF.out; split at this <;> omega)
    clear hk
    go_wp2_with fail
    go_ret
    exact ⟨by rw [HZ.out]; try rfl, E0⟩
  cases hbf : bf
  case false =>
    subst hbf
    have HZ := Lib.hid (show F = 1 by have := HF.out; have h2 := HBF.out; have : ¬ (0 ≤ f ∧ f ≤ 65535) := fun h => by rw [w16_of h] at h2; cases h2
                                      split at * <;> omega)
    rcases hk with hk | hk
    case' inl => have e6 : (k != 6) = false := by rw [hk]; rfl
    case' inr =>
      have e6 : (k != 6) = true := by rw [hk]; rfl
      have e17 : (k != 17) = false := by rw [hk]; rfl
    all_goals
      clear hk
      go_wp2_with fail
      go_ret
      exact ⟨by rw [HZ.out]; try rfl, E0⟩
  subst hbf
  cases hbt : bt
  case false =>
    subst hbt
    have HZ := Lib.hid (show F = 1 by have := HF.out; have h2 := HBT.out; have : ¬ (0 ≤ t ∧ t ≤ 65535) := fun h => by rw [w16_of h] at h2; cases h2
                                      split at * <;> omega)
    rcases hk with hk | hk
    case' inl => have e6 : (k != 6) = false := by rw [hk]; rfl
    case' inr =>
      have e6 : (k != 6) = true := by rw [hk]; rfl
      have e17 : (k != 17) = false := by rw [hk]; rfl
    all_goals
      clear hk
      go_wp2_with fail
      go_ret
      exact ⟨by rw [HZ.out]; try rfl, E0⟩
  subst hbt
  have hf := w16_yes HBF.out
  have ht := w16_yes HBT.out
  have HG := Lib.hid (show (if k = 6 ∧ (q < 0 ∨ 4294967296 ≤ q ∨ m < 0 ∨ 4294967296 ≤ m ∨ fl < 0 ∨ 31 < fl ∨ ¬ (0 ≤ wi ∧ wi ≤ 65535)) then (1 : Int) else if k = 17 ∧ (q ≠ 0 ∨ m ≠ 0 ∨ fl ≠ 0 ∨ wi ≠ 0) then 2 else if 300 < n then 3 else 0) = F by
    have := HF.out
    rw [if_neg (by omega)] at this
    exact this)
  clear hf ht HF
  rcases hk with rfl | rfl
  case inr =>
    by_cases hz : q = 0 ∧ m = 0 ∧ fl = 0 ∧ wi = 0
    case neg =>
      have HZ := Lib.hid (show F = 2 by have := HG.out; rw [if_neg (by omega), if_pos (by omega)] at this; exact this.symm)
      obtain ⟨z0, hz0⟩ : ∃ b, (q != 0) = b := ⟨_, rfl⟩
      obtain ⟨z1, hz1⟩ : ∃ b, (m != 0) = b := ⟨_, rfl⟩
      obtain ⟨z2, hz2⟩ : ∃ b, (fl != 0) = b := ⟨_, rfl⟩
      obtain ⟨z3, hz3⟩ : ∃ b, (wi != 0) = b := ⟨_, rfl⟩
      have hall : (z0 || (z1 || (z2 || z3))) = true := by
        subst hz0 hz1 hz2 hz3
        simp
        omega
      clear hz
      cases z0
      case' false => cases z1
      case' false.false => cases z2
      case' false.false.false => cases z3
      case' false.false.false.false => cases hall
      all_goals
        clear hall
        go_wp2_with fail
        go_ret
        exact ⟨by rw [HZ.out]; try rfl, E0⟩
    obtain ⟨rfl, rfl, rfl, rfl⟩ := hz
    by_cases hn : n ≤ 300
    case neg =>
      have HZ := Lib.hid (show F = 3 by have := HG.out; rw [if_neg (by omega), if_neg (by omega), if_pos (by omega)] at this; exact this.symm)
      go_wp2_with fail
      refine (word_any _ _).mono ?_
      rintro e' w' ⟨rfl, rfl⟩
      go_wp2_with fail
      go_ret
      exact ⟨by rw [HZ.out]; try rfl, E0⟩
    have HZ := Lib.hid (show F = 0 by have := HG.out; rw [if_neg (by omega), if_neg (by omega), if_neg (by omega)] at this; exact this.symm)
    go_wp2_with fail
    refine (word_any _ _).mono ?_
    rintro e' w' ⟨rfl, rfl⟩
    go_wp2_with fail
    go_ret
    exact ⟨by rw [HZ.out]; try rfl, E0⟩
  case inl =>
    have HA := Lib.hid (show ¬ (0 ≤ q ∧ q < 4294967296 ∧ 0 ≤ m ∧ m < 4294967296 ∧ 0 ≤ fl ∧ fl ≤ 31 ∧ (0 ≤ wi ∧ wi ≤ 65535)) → F = 1 from fun h => by have := HG.out; rw [if_pos ⟨rfl, by omega⟩] at this; exact this.symm)
    have HB := Lib.hid (show (0 ≤ q ∧ q < 4294967296 ∧ 0 ≤ m ∧ m < 4294967296 ∧ 0 ≤ fl ∧ fl ≤ 31 ∧ (0 ≤ wi ∧ wi ≤ 65535)) → ¬ n ≤ 300 → F = 3 from fun h hn => by have := HG.out; rw [if_neg (by omega), if_neg (by omega), if_pos (by omega)] at this; exact this.symm)
    have HC := Lib.hid (show (0 ≤ q ∧ q < 4294967296 ∧ 0 ≤ m ∧ m < 4294967296 ∧ 0 ≤ fl ∧ fl ≤ 31 ∧ (0 ≤ wi ∧ wi ≤ 65535)) → n ≤ 300 → F = 0 from fun h hn => by have := HG.out; rw [if_neg (by omega), if_neg (by omega), if_neg (by omega)] at this; exact this.symm)
    clear HG
    go_wp2_with fail
    refine (word_any _ _).mono ?_
    rintro e' w' ⟨rfl, rfl⟩
    rw [HBW.out]
    by_cases hr : 0 ≤ q ∧ q < 4294967296 ∧ 0 ≤ m ∧ m < 4294967296 ∧ 0 ≤ fl ∧ fl ≤ 31 ∧ (0 ≤ wi ∧ wi ≤ 65535)
    case neg =>
      have HZ := Lib.hid (HA.out hr)
      have HW := Lib.hid (show bw = false → ¬ (0 ≤ wi ∧ wi ≤ 65535) from fun h1 h => by have h2 := HBW.out; rw [w16_of h, h1] at h2; cases h2)
      have HW2 := Lib.hid (show bw = true → (0 ≤ wi ∧ wi ≤ 65535) from fun h1 => w16_yes (HBW.out.trans h1))
      have hall : ¬ (0 ≤ q ∧ q < 4294967296 ∧ 0 ≤ m ∧ m < 4294967296 ∧ 0 ≤ fl ∧ fl ≤ 31 ∧ bw = true) := fun ⟨h0, h1, h2, h3, h4, h5, h6⟩ => hr ⟨h0, h1, h2, h3, h4, h5, HW2.out h6⟩
      have HALL := Lib.hid hall
      clear hr hall
      have hbw : bw = false ∨ bw = true := by cases bw <;> simp
      by_cases g0 : 0 ≤ q
      by_cases g1 : q ≤ 4294967295
      by_cases g2 : 0 ≤ m
      by_cases g3 : m ≤ 4294967295
      by_cases g4 : 0 ≤ fl
      by_cases g5 : fl ≤ 31
      rcases hbw with rfl | rfl
      rotate_left
      · exact absurd ⟨g0, by omega, g2, by omega, g4, g5, rfl⟩ HALL.out
      all_goals
        go_wp2_with fail
        go_ret
        exact ⟨by rw [HZ.out]; try rfl, E0⟩
    have HR := Lib.hid hr
    obtain ⟨g0, g1, g2, g3, g4, g5, g6⟩ := hr
    obtain rfl : true = bw := (w16_of g6).symm.trans HBW.out
    have g1' : q ≤ 4294967295 := by omega
    have g3' : m ≤ 4294967295 := by omega
    by_cases hn : n ≤ 300
    case neg =>
      have HZ := Lib.hid (HB.out HR.out hn)
      clear g1 g3
      go_wp2_with fail
      go_ret
      exact ⟨by rw [HZ.out]; try rfl, E0⟩
    have HZ := Lib.hid (HC.out HR.out hn)
    clear g1 g3
    go_wp2_with fail
    go_ret
    exact ⟨by rw [HZ.out]; try rfl, E0⟩
end Go.Proofs.YtkjchddidpjjmaaDoor
/- The contract of gangplanksame.Segs, of two that are the same. Conditions: as each theorem states them. -/
namespace Go.Proofs.YtkjchddidpjjmaaDoor
open Go.RowKit
set_option maxRecDepth 100000 in
set_option maxHeartbeats 1000000 in
theorem segs_yes (s : Sg) (a a' : Option Addr) (n c n' c' : Nat) (xs : List Int) (w : World) (h1 : Ints .u8 w a n xs) (h2 : Ints .u8 w a' n' xs) :
    Calls Tryd.prog 24 #[s.v (.slice a n c), s.v (.slice a' n' c')] w fun e w' => e = .returned (.bool true) ∧ Ext w w' := by
  have K1 := (Blk.new w 50 (s.cells (.slice a n c))).alloc (.cells (s.cells (.slice a' n' c')) 50)
  have K2 := Blk.new (w.alloc (.cells (s.cells (.slice a n c)) 50)) 50 (s.cells (.slice a' n' c'))
  simp only [World.size_alloc] at K2
  have E2 := ((Ext.refl w).alloc (.cells (s.cells (.slice a n c)) 50)).alloc (.cells (s.cells (.slice a' n' c')) 50)
  have k1 := conv_str (c := c) (h1.ext E2)
  have k2 := conv_str (c := c') (h2.ext E2)
  obtain ⟨m0, m1, m2, m3, m4, m5, m6, m7⟩ := K1.sg
  obtain ⟨n0, n1, n2, n3, n4, n5, n6, n7⟩ := K2.sg
  have HE := Lib.hid E2
  generalize strOfNums xs = z at k1 k2
  clear h1 h2 E2 K1 K2
  go_enter Tryd.func24, Tryd.ntmps24
  go_wp2_with fail
  go_ret
  exact ⟨by simp, HE.out⟩
end Go.Proofs.YtkjchddidpjjmaaDoor
