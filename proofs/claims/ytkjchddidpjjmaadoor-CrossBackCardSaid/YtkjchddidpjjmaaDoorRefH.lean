/- The document's SegOf: bytes as a segment over something. Conditions: as each theorem states them. -/
import Derived.Test.YtkjchddidpjjmaaDoorRefG
import Derived.Test.YtkjchddidpjjmaaDoorSegC
import Derived.Test.YtkjchddidpjjmaaDoorRef6
namespace Go.Proofs.YtkjchddidpjjmaaDoor
open Go.RowKit
theorem rword_ext (a : Option Addr) (n c k : Nat) (i : Int) (hi : i = k) (xs : List Int) (w : World) (hr : Ints .u8 w a n xs) (hb : Pl.IsB xs) (hn : k + 1 < n) (hn2 : n ≤ 100000) :
    Calls Tryd.prog 68 #[.slice a n c, .int .i64 i] w fun e w' => e = .returned (.int .i64 (Pl.at2 xs k)) ∧ Ext w w' := by
  obtain ⟨b, off, rfl, _, hc⟩ := hr.at (by omega)
  exact (rword_any b off n c k i hi (xs.getD k 0) (xs.getD (k + 1) 0) w hn hn2 (hc k (by omega)) (hc (k + 1) (by omega)) (hb.getD k) (hb.getD (k + 1))).mono fun _ _ ⟨h, q, hq⟩ => ⟨h, by rw [hq]; exact (Ext.refl w).drewN q⟩
/-- What SegOf gives. -/
def RDecGot (k : Int) (xs : List Int) (over : Int) (w : World) (e : Ending) (w' : World) : Prop :=
  ∃ a n c, e = .returned (.tuple #[(Pl.segV k xs over).v (.slice a n c), .int .i64 (Pl.segQ k xs over)]) ∧ Ints .u8 w' a n (Pl.segD k xs over) ∧ Ext w w'
theorem rdecGot_bad {k over q : Int} {xs : List Int} {w w' : World} (h : Pl.segQ k xs over = q) (hq : q ≠ 0) (he : Ext w w') : RDecGot k xs over w (.returned (.tuple #[.agg #[.int .i64 0, .int .i64 0, .int .i64 0, .int .i64 0, .int .i64 0, .int .i64 0, .int .i64 0, .slice none 0 0], .int .i64 q])) w' := by
  refine ⟨none, 0, 0, ?_, ?_, he⟩
  · unfold Pl.segV
    rw [h, if_neg hq]
    rfl
  · unfold Pl.segD
    rw [h, if_neg hq]
    exact Ints.nil
theorem w16_word {n : Int} (h : Pl.Word n) : w16 n = true := by unfold w16; have h0 := h.1; have h1 := h.2; simp [h0, h1]
theorem w16_not_word {n : Int} (h : ¬ Pl.Word n) : w16 n = false := by
  cases hw : w16 n
  · rfl
  · exact absurd (w16_yes hw) h
set_option maxRecDepth 100000 in
set_option maxHeartbeats 2000000 in
theorem rsegOf_bad (k : Int) (a : Option Addr) (n c : Nat) (xs : List Int) (over : Int) (w : World) (h : ¬ (k = 6 ∨ k = 17) ∨ ¬ Pl.Word over) :
    Calls Tryd.prog 33 #[.int .i64 k, .slice a n c, .int .i64 over] w (RDecGot k xs over w) := by
  have HQ := Lib.hid (show Pl.segQ k xs over = 1 by unfold Pl.segQ; rw [if_pos h])
  have KR := Blk.new w 50 #[.int .i64 0, .int .i64 0, .int .i64 0, .int .i64 0, .int .i64 0, .int .i64 0, .int .i64 0, .slice none 0 0]
  have E0 : Ext w (w.alloc (.cells #[.int .i64 0, .int .i64 0, .int .i64 0, .int .i64 0, .int .i64 0, .int .i64 0, .int .i64 0, .slice none 0 0] 50)) := (Ext.refl w).alloc _
  have s0 := sto KR ⟨0, 0, 0, 0, 0, 0, 0⟩ none 0 0
  by_cases hk : k = 6 ∨ k = 17
  case neg =>
    have k6 : (k != 6) = true := by simp; omega
    have k17 : (k != 17) = true := by simp; omega
    clear h hk
    go_enter Tryd.func33, Tryd.ntmps33
    go_wp2_with fail
    refine (word_any _ _).mono ?_
    rintro e w' ⟨rfl, rfl⟩
    go_wp2_with ((apply store_by rfl _ _ _ rfl _ rfl); (focus (with_reducible assumption)); (focus rfl))
    refine bodyPost_ret (results_cell2 Tryd.results33 _ _ w.heap.size 50 #[.int .i64 0, .int .i64 0, .int .i64 0, .int .i64 0, .int .i64 0, .int .i64 0, .int .i64 0, .slice none 0 0] _ rfl (KR.row _) Tryd.underlying50 rfl Tryd.sizeSeg) rfl (rdecGot_bad HQ.out (by decide) (E0.row (Nat.le_refl _) _))
  have HO := Lib.hid (w16_not_word (show ¬ Pl.Word over from fun ho => by rcases h with h | h; exact h hk; exact h ho))
  rcases hk with rfl | rfl
  all_goals
    clear h
    go_enter Tryd.func33, Tryd.ntmps33
    go_wp2_with fail
    refine (word_any _ _).mono ?_
    rintro e w' ⟨rfl, rfl⟩
    rw [HO.out]
    go_wp2_with ((apply store_by rfl _ _ _ rfl _ rfl); (focus (with_reducible assumption)); (focus rfl))
    refine bodyPost_ret (results_cell2 Tryd.results33 _ _ w.heap.size 50 #[.int .i64 0, .int .i64 0, .int .i64 0, .int .i64 0, .int .i64 0, .int .i64 0, .int .i64 0, .slice none 0 0] _ rfl (KR.row _) Tryd.underlying50 rfl Tryd.sizeSeg) rfl (rdecGot_bad HQ.out (by decide) (E0.row (Nat.le_refl _) _))
set_option maxRecDepth 100000 in
set_option maxHeartbeats 2000000 in
theorem rsegOf_short17 (a : Option Addr) (n c : Nat) (xs : List Int) (over : Int) (w : World) (hr : Ints .u8 w a n xs) (ho : Pl.Word over) (h : n < 8 ∨ 308 < n) :
    Calls Tryd.prog 33 #[.int .i64 17, .slice a n c, .int .i64 over] w (RDecGot 17 xs over w) := by
  have hl := hr.len
  have HQ := Lib.hid (show Pl.segQ 17 xs over = 5 by
    rw [Pl.segQ_of (by decide) ho, if_pos]
    rintro ⟨h2, _⟩
    rw [show Pl.segSize 17 = 8 from rfl] at h2
    omega)
  have KR := Blk.new w 50 #[.int .i64 0, .int .i64 0, .int .i64 0, .int .i64 0, .int .i64 0, .int .i64 0, .int .i64 0, .slice none 0 0]
  have E0 : Ext w (w.alloc (.cells #[.int .i64 0, .int .i64 0, .int .i64 0, .int .i64 0, .int .i64 0, .int .i64 0, .int .i64 0, .slice none 0 0] 50)) := (Ext.refl w).alloc _
  have s0 := sto KR ⟨0, 0, 0, 0, 0, 0, 0⟩ none 0 0
  have HO := Lib.hid (w16_word ho)
  clear ho
  rcases h with h | h
  · have h' : (n : Int) < 8 := by omega
    clear h
    go_enter Tryd.func33, Tryd.ntmps33
    go_wp2_with fail
    refine (word_any _ _).mono ?_
    rintro e w' ⟨rfl, rfl⟩
    rw [HO.out]
    go_wp2_with ((apply store_by rfl _ _ _ rfl _ rfl); (focus (with_reducible assumption)); (focus rfl))
    refine bodyPost_ret (results_cell2 Tryd.results33 _ _ w.heap.size 50 #[.int .i64 0, .int .i64 0, .int .i64 0, .int .i64 0, .int .i64 0, .int .i64 0, .int .i64 0, .slice none 0 0] _ rfl (KR.row _) Tryd.underlying50 rfl Tryd.sizeSeg) rfl (rdecGot_bad HQ.out (by decide) (E0.row (Nat.le_refl _) _))
  · have h' : (308 : Int) < (n : Int) := by omega
    have h'' : ¬ (n : Int) < 8 := by omega
    clear h
    go_enter Tryd.func33, Tryd.ntmps33
    go_wp2_with fail
    refine (word_any _ _).mono ?_
    rintro e w' ⟨rfl, rfl⟩
    rw [HO.out]
    go_wp2_with ((apply store_by rfl _ _ _ rfl _ rfl); (focus (with_reducible assumption)); (focus rfl))
    refine bodyPost_ret (results_cell2 Tryd.results33 _ _ w.heap.size 50 #[.int .i64 0, .int .i64 0, .int .i64 0, .int .i64 0, .int .i64 0, .int .i64 0, .int .i64 0, .slice none 0 0] _ rfl (KR.row _) Tryd.underlying50 rfl Tryd.sizeSeg) rfl (rdecGot_bad HQ.out (by decide) (E0.row (Nat.le_refl _) _))
set_option maxRecDepth 100000 in
set_option maxHeartbeats 2000000 in
theorem rsegOf_short6 (a : Option Addr) (n c : Nat) (xs : List Int) (over : Int) (w : World) (hr : Ints .u8 w a n xs) (ho : Pl.Word over) (h : n < 20 ∨ 320 < n) :
    Calls Tryd.prog 33 #[.int .i64 6, .slice a n c, .int .i64 over] w (RDecGot 6 xs over w) := by
  have hl := hr.len
  have HQ := Lib.hid (show Pl.segQ 6 xs over = 5 by
    rw [Pl.segQ_of (by decide) ho, if_pos]
    rintro ⟨h2, _⟩
    rw [show Pl.segSize 6 = 20 from rfl] at h2
    omega)
  have KR := Blk.new w 50 #[.int .i64 0, .int .i64 0, .int .i64 0, .int .i64 0, .int .i64 0, .int .i64 0, .int .i64 0, .slice none 0 0]
  have E0 : Ext w (w.alloc (.cells #[.int .i64 0, .int .i64 0, .int .i64 0, .int .i64 0, .int .i64 0, .int .i64 0, .int .i64 0, .slice none 0 0] 50)) := (Ext.refl w).alloc _
  have s0 := sto KR ⟨0, 0, 0, 0, 0, 0, 0⟩ none 0 0
  have HO := Lib.hid (w16_word ho)
  clear ho
  rcases h with h | h
  · have h' : (n : Int) < 20 := by omega
    clear h
    go_enter Tryd.func33, Tryd.ntmps33
    go_wp2_with fail
    refine (word_any _ _).mono ?_
    rintro e w' ⟨rfl, rfl⟩
    rw [HO.out]
    go_wp2_with ((apply store_by rfl _ _ _ rfl _ rfl); (focus (with_reducible assumption)); (focus rfl))
    refine bodyPost_ret (results_cell2 Tryd.results33 _ _ w.heap.size 50 #[.int .i64 0, .int .i64 0, .int .i64 0, .int .i64 0, .int .i64 0, .int .i64 0, .int .i64 0, .slice none 0 0] _ rfl (KR.row _) Tryd.underlying50 rfl Tryd.sizeSeg) rfl (rdecGot_bad HQ.out (by decide) (E0.row (Nat.le_refl _) _))
  · have h' : (320 : Int) < (n : Int) := by omega
    have h'' : ¬ (n : Int) < 20 := by omega
    clear h
    go_enter Tryd.func33, Tryd.ntmps33
    go_wp2_with fail
    refine (word_any _ _).mono ?_
    rintro e w' ⟨rfl, rfl⟩
    rw [HO.out]
    go_wp2_with ((apply store_by rfl _ _ _ rfl _ rfl); (focus (with_reducible assumption)); (focus rfl))
    refine bodyPost_ret (results_cell2 Tryd.results33 _ _ w.heap.size 50 #[.int .i64 0, .int .i64 0, .int .i64 0, .int .i64 0, .int .i64 0, .int .i64 0, .int .i64 0, .slice none 0 0] _ rfl (KR.row _) Tryd.underlying50 rfl Tryd.sizeSeg) rfl (rdecGot_bad HQ.out (by decide) (E0.row (Nat.le_refl _) _))
set_option maxRecDepth 100000 in
set_option maxHeartbeats 8000000 in
theorem rsegOf_core17 (a : Option Addr) (n c : Nat) (xs : List Int) (over : Int) (w : World) (hr : Ints .u8 w a n xs) (hb : Pl.IsB xs) (hnc : n ≤ c) (hc : a = none → c = 0) (ho : Pl.Word over) (h0 : 8 ≤ n) (h1 : n ≤ 308) :
    Calls Tryd.prog 33 #[.int .i64 17, .slice a n c, .int .i64 over] w (RDecGot 17 xs over w) := by
  obtain ⟨b, off, rfl, hbl, hcell⟩ := hr.at (by omega)
  have hl := hr.len
  have HR := Lib.hid hr
  have HB := Lib.hid hb
  have HO := Lib.hid ho
  have HO' := Lib.hid (w16_word ho)
  have HL := Lib.hid hl
  have KR := Blk.new w 50 #[.int .i64 0, .int .i64 0, .int .i64 0, .int .i64 0, .int .i64 0, .int .i64 0, .int .i64 0, .slice none 0 0]
  have E0 : Ext w (w.alloc (.cells #[.int .i64 0, .int .i64 0, .int .i64 0, .int .i64 0, .int .i64 0, .int .i64 0, .int .i64 0, .slice none 0 0] 50)) := (Ext.refl w).alloc _
  obtain ⟨AS, iS, zS, rS⟩ := slice_tail (some ⟨b, off, none⟩) n c 8 8 rfl (by omega) hnc hc
  have HIS := Lib.hid (fun (W : World) (q : Ext w W) => (iS W xs (hr.ext q)))
  have F0 := Lib.hid (fun (W : World) (q : Ext w W) => rword_ext (some ⟨b, off, none⟩) n c 0 0 rfl xs W (hr.ext q) hb (by omega) (by omega))
  have F2 := Lib.hid (fun (W : World) (q : Ext w W) => rword_ext (some ⟨b, off, none⟩) n c 2 2 rfl xs W (hr.ext q) hb (by omega) (by omega))
  have F6 := Lib.hid (fun (W : World) (q : Ext w W) => rword_ext (some ⟨b, off, none⟩) n c 6 6 rfl xs W (hr.ext q) hb (by omega) (by omega))
  have F4 := Lib.hid (fun (W : World) (q : Ext w W) => rword_ext (some ⟨b, off, none⟩) n c 4 4 rfl xs W (hr.ext q) hb (by omega) (by omega))
  have l0 : ¬ (n : Int) < 8 := by omega
  have l1 : ¬ (308 : Int) < (n : Int) := by omega
  have HCELL := Lib.hid (fun (W : World) (q : Ext w W) j (hj : j < n) => (World.cell?_of_block (a := ⟨b, off + j, none⟩) (Below.block q b hbl)).trans (hcell j hj))
  have HQ := Lib.hid (Pl.segQ_of (k := 17) (over := over) (xs := xs) (by decide) ho)
  clear hcell hr hb ho hl iS zS hc
  go_enter Tryd.func33, Tryd.ntmps33
  go_wp2_with fail
  refine (word_any _ _).mono ?_
  rintro e w' ⟨rfl, rfl⟩
  rw [HO'.out]
  go_upto_region 9 with (fail)
  refine at_worldE (fun W => Ext w W ∧ Blk W w.heap.size 50 #[.int .i64 0, .int .i64 0, .int .i64 0, .int .i64 0, .int .i64 0, .int .i64 0, .int .i64 0, .slice none 0 0]) ⟨E0, KR⟩ ?_
  clear E0 KR
  rintro W0 ⟨E0, KR⟩
  go_cut [10] (fun p wc => ∃ g, p = .pointer (some ⟨g, 0, none⟩) ∧ W0.heap.size ≤ g ∧ Blk wc g 50 ((⟨17, Pl.at2 xs 0, Pl.at2 xs 2, 0, 0, 0, 0⟩ : Sg).cells (.slice AS (n - 8) (c - 8))) ∧ Ext W0 wc)
  case first =>
    have EX : Ext W0 W0.drew := (Ext.refl W0).drew
    refine wp_region_held_drew (S := (fun _ => True)) (by kernel_rfl) trivial (fun hS0 => ?_)
    generalize W0.drew = V0 at *
    (refine wpAnyH_take (i := 0) (v := ?_) rfl (by kernel_rfl) (by kernel_rfl) (by kernel_rfl) (fun _ _ _ h => h) (Or.inl ⟨by rfl, ?_⟩) (by assumption) ?_; rotate_left; focus (intro w hSw; (try dsimp only at hSw); go_simp; try with_reducible rfl); try simp only [Act.put, List.getElem_toArray, List.getElem_cons_succ, List.getElem_cons_zero, List.setIfInBounds_toArray, List.set_cons_zero, List.set_cons_succ])
    (refine wpAnyH_take (i := 1) (v := ?_) rfl (by kernel_rfl) (by kernel_rfl) (by kernel_rfl) (fun _ _ _ h => h) (Or.inl ⟨by rfl, ?_⟩) (by assumption) ?_; rotate_left; focus (intro w hSw; (try dsimp only at hSw); go_simp; try with_reducible rfl); try simp only [Act.put, List.getElem_toArray, List.getElem_cons_succ, List.getElem_cons_zero, List.setIfInBounds_toArray, List.set_cons_zero, List.set_cons_succ])
    (refine wpAnyH_take (i := 3) (v := ?_) rfl (by kernel_rfl) (by kernel_rfl) (by kernel_rfl) (fun _ _ _ h => h) (Or.inl ⟨by rfl, ?_⟩) (by assumption) ?_; rotate_left; focus (intro w hSw; (try dsimp only at hSw); go_simp; try with_reducible rfl); try simp only [Act.put, List.getElem_toArray, List.getElem_cons_succ, List.getElem_cons_zero, List.setIfInBounds_toArray, List.set_cons_zero, List.set_cons_succ])
    (refine wpAnyH_take (i := 5) (v := ?_) rfl (by kernel_rfl) (by kernel_rfl) (by kernel_rfl) (fun _ _ _ h => h) (Or.inl ⟨by rfl, ?_⟩) (by assumption) ?_; rotate_left; focus (intro w hSw; (try dsimp only at hSw); go_simp; try with_reducible rfl); try simp only [Act.put, List.getElem_toArray, List.getElem_cons_succ, List.getElem_cons_zero, List.setIfInBounds_toArray, List.set_cons_zero, List.set_cons_succ])
    (refine wpAnyH_take (i := 6) (v := ?_) rfl (by kernel_rfl) (by kernel_rfl) (by kernel_rfl) (fun _ _ _ h => h) (Or.inl ⟨by rfl, ?_⟩) (by assumption) ?_; rotate_left; focus (intro w hSw; (try dsimp only at hSw); go_simp; try with_reducible rfl); try simp only [Act.put, List.getElem_toArray, List.getElem_cons_succ, List.getElem_cons_zero, List.setIfInBounds_toArray, List.set_cons_zero, List.set_cons_succ])
    (refine wpAnyH_take (i := 7) (v := ?_) rfl (by kernel_rfl) (by kernel_rfl) (by kernel_rfl) (fun _ _ _ h => h) (Or.inl ⟨by rfl, ?_⟩) (by assumption) ?_; rotate_left; focus (intro w hSw; (try dsimp only at hSw); go_simp; try with_reducible rfl); try simp only [Act.put, List.getElem_toArray, List.getElem_cons_succ, List.getElem_cons_zero, List.setIfInBounds_toArray, List.set_cons_zero, List.set_cons_succ])
    refine wpAnyH_ready (rs := [2, 9]) (by kernel_rfl) (by simp) ?_
    refine AllReadyH.cons rfl (fun K hK => ?_) (AllReadyH.cons rfl (fun K hK => ?_) AllReadyH.nil)
    · go_simp
      go_at_call 68
      refine (F0.out _ (E0.trans EX)).mono ?_
      rintro e V1 ⟨rfl, q⟩
      replace EX := EX.trans q
      refine hK.out _ _ trivial ?_
      clear hK K q
      intro hS
      (try simp only [Act.put, List.getElem_toArray, List.getElem_cons_succ, List.getElem_cons_zero, List.setIfInBounds_toArray, List.set_cons_zero, List.set_cons_succ])
      refine wpAnyH_ready (rs := [4, 9]) (by kernel_rfl) (by simp) ?_
      refine AllReadyH.cons rfl (fun K hK => ?_) (AllReadyH.cons rfl (fun K hK => ?_) AllReadyH.nil)
      · go_simp
        go_at_call 68
        refine (F2.out _ (E0.trans EX)).mono ?_
        rintro e V2 ⟨rfl, q⟩
        replace EX := EX.trans q
        refine hK.out _ _ trivial ?_
        clear hK K q
        intro hS
        (try simp only [Act.put, List.getElem_toArray, List.getElem_cons_succ, List.getElem_cons_zero, List.setIfInBounds_toArray, List.set_cons_zero, List.set_cons_succ])
        (refine wpAnyH_take (i := 8) (v := ?_) rfl (by kernel_rfl) (by kernel_rfl) (by kernel_rfl) (fun _ _ _ h => h) (Or.inl ⟨by rfl, ?_⟩) (by assumption) ?_; rotate_left; focus (intro w hSw; (try dsimp only at hSw); go_simp; try with_reducible rfl); try simp only [Act.put, List.getElem_toArray, List.getElem_cons_succ, List.getElem_cons_zero, List.setIfInBounds_toArray, List.set_cons_zero, List.set_cons_succ])
        refine wpAnyH_ready (rs := [9]) (by kernel_rfl) (by simp) ?_
        refine AllReadyH.cons rfl (fun K hK => ?_) AllReadyH.nil
        · go_simp
          have KG := Blk.new V2 50 #[.int .i64 0, .int .i64 0, .int .i64 0, .int .i64 0, .int .i64 0, .int .i64 0, .int .i64 0, .slice none 0 0]
          have EX3 := EX.alloc (.cells #[.int .i64 0, .int .i64 0, .int .i64 0, .int .i64 0, .int .i64 0, .int .i64 0, .int .i64 0, .slice none 0 0] 50)
          have hgl : W0.heap.size ≤ V2.heap.size := EX.size
          refine hK.out _ _ trivial ?_
          clear hK K
          intro hS
          clear EX
          generalize V2.alloc (.cells #[.int .i64 0, .int .i64 0, .int .i64 0, .int .i64 0, .int .i64 0, .int .i64 0, .int .i64 0, .slice none 0 0] 50) = V3 at *
          have EX := EX3
          clear EX3
          generalize V2.heap.size = g at *
          (try simp only [Act.put, List.getElem_toArray, List.getElem_cons_succ, List.getElem_cons_zero, List.setIfInBounds_toArray, List.set_cons_zero, List.set_cons_succ])
          (refine wpAnyH_ready (rs := [10]) (by kernel_rfl) (by simp) ?_; refine AllReadyH.cons rfl (fun K hK => ?_) AllReadyH.nil)
          rw [if_pos (by rfl)]
          refine wp_store_by _ _ _ rfl _ rfl (sto KG ⟨17, Pl.at2 xs 0, Pl.at2 xs 2, 0, 0, 0, 0⟩ AS (n - 8) (c - 8)) rfl ?_
          refine hK.out _ _ trivial ?_
          clear hK K
          intro hS
          (try simp only [Act.put])
          refine wpAnyH_done (by kernel_rfl) ?_ _
          have K8 := KG.row ((⟨17, Pl.at2 xs 0, Pl.at2 xs 2, 0, 0, 0, 0⟩ : Sg).cells (.slice AS (n - 8) (c - 8)))
          have E8 := EX.row hgl ((⟨17, Pl.at2 xs 0, Pl.at2 xs 2, 0, 0, 0, 0⟩ : Sg).cells (.slice AS (n - 8) (c - 8)))
          go_wp2_with fail
          go_meet
          exact ⟨_, rfl, hgl, K8, E8⟩
      · go_simp
        have KG := Blk.new V1 50 #[.int .i64 0, .int .i64 0, .int .i64 0, .int .i64 0, .int .i64 0, .int .i64 0, .int .i64 0, .slice none 0 0]
        have EX2 := EX.alloc (.cells #[.int .i64 0, .int .i64 0, .int .i64 0, .int .i64 0, .int .i64 0, .int .i64 0, .int .i64 0, .slice none 0 0] 50)
        have hgl : W0.heap.size ≤ V1.heap.size := EX.size
        refine hK.out _ _ trivial ?_
        clear hK K
        intro hS
        clear EX
        generalize V1.alloc (.cells #[.int .i64 0, .int .i64 0, .int .i64 0, .int .i64 0, .int .i64 0, .int .i64 0, .int .i64 0, .slice none 0 0] 50) = V2 at *
        have EX := EX2
        clear EX2
        generalize V1.heap.size = g at *
        (try simp only [Act.put, List.getElem_toArray, List.getElem_cons_succ, List.getElem_cons_zero, List.setIfInBounds_toArray, List.set_cons_zero, List.set_cons_succ])
        refine wpAnyH_ready (rs := [4]) (by kernel_rfl) (by simp) ?_
        refine AllReadyH.cons rfl (fun K hK => ?_) AllReadyH.nil
        · go_simp
          go_at_call 68
          refine (F2.out _ (E0.trans EX)).mono ?_
          rintro e V3 ⟨rfl, q⟩
          replace EX := EX.trans q
          replace KG := KG.ext q
          refine hK.out _ _ trivial ?_
          clear hK K q
          intro hS
          (try simp only [Act.put, List.getElem_toArray, List.getElem_cons_succ, List.getElem_cons_zero, List.setIfInBounds_toArray, List.set_cons_zero, List.set_cons_succ])
          (refine wpAnyH_take (i := 8) (v := ?_) rfl (by kernel_rfl) (by kernel_rfl) (by kernel_rfl) (fun _ _ _ h => h) (Or.inl ⟨by rfl, ?_⟩) (by assumption) ?_; rotate_left; focus (intro w hSw; (try dsimp only at hSw); go_simp; try with_reducible rfl); try simp only [Act.put, List.getElem_toArray, List.getElem_cons_succ, List.getElem_cons_zero, List.setIfInBounds_toArray, List.set_cons_zero, List.set_cons_succ])
          (refine wpAnyH_ready (rs := [10]) (by kernel_rfl) (by simp) ?_; refine AllReadyH.cons rfl (fun K hK => ?_) AllReadyH.nil)
          rw [if_pos (by rfl)]
          refine wp_store_by _ _ _ rfl _ rfl (sto KG ⟨17, Pl.at2 xs 0, Pl.at2 xs 2, 0, 0, 0, 0⟩ AS (n - 8) (c - 8)) rfl ?_
          refine hK.out _ _ trivial ?_
          clear hK K
          intro hS
          (try simp only [Act.put, List.getElem_toArray, List.getElem_cons_succ, List.getElem_cons_zero, List.setIfInBounds_toArray, List.set_cons_zero, List.set_cons_succ])
          refine wpAnyH_done (by kernel_rfl) ?_ _
          have K8 := KG.row ((⟨17, Pl.at2 xs 0, Pl.at2 xs 2, 0, 0, 0, 0⟩ : Sg).cells (.slice AS (n - 8) (c - 8)))
          have E8 := EX.row hgl ((⟨17, Pl.at2 xs 0, Pl.at2 xs 2, 0, 0, 0, 0⟩ : Sg).cells (.slice AS (n - 8) (c - 8)))
          go_wp2_with fail
          go_meet
          exact ⟨_, rfl, hgl, K8, E8⟩
    · go_simp
      have KG := Blk.new V0 50 #[.int .i64 0, .int .i64 0, .int .i64 0, .int .i64 0, .int .i64 0, .int .i64 0, .int .i64 0, .slice none 0 0]
      have EX1 := EX.alloc (.cells #[.int .i64 0, .int .i64 0, .int .i64 0, .int .i64 0, .int .i64 0, .int .i64 0, .int .i64 0, .slice none 0 0] 50)
      have hgl : W0.heap.size ≤ V0.heap.size := EX.size
      refine hK.out _ _ trivial ?_
      clear hK K
      intro hS
      clear EX
      generalize V0.alloc (.cells #[.int .i64 0, .int .i64 0, .int .i64 0, .int .i64 0, .int .i64 0, .int .i64 0, .int .i64 0, .slice none 0 0] 50) = V1 at *
      have EX := EX1
      clear EX1
      generalize V0.heap.size = g at *
      (try simp only [Act.put, List.getElem_toArray, List.getElem_cons_succ, List.getElem_cons_zero, List.setIfInBounds_toArray, List.set_cons_zero, List.set_cons_succ])
      refine wpAnyH_ready (rs := [2]) (by kernel_rfl) (by simp) ?_
      refine AllReadyH.cons rfl (fun K hK => ?_) AllReadyH.nil
      · go_simp
        go_at_call 68
        refine (F0.out _ (E0.trans EX)).mono ?_
        rintro e V2 ⟨rfl, q⟩
        replace EX := EX.trans q
        replace KG := KG.ext q
        refine hK.out _ _ trivial ?_
        clear hK K q
        intro hS
        (try simp only [Act.put, List.getElem_toArray, List.getElem_cons_succ, List.getElem_cons_zero, List.setIfInBounds_toArray, List.set_cons_zero, List.set_cons_succ])
        refine wpAnyH_ready (rs := [4]) (by kernel_rfl) (by simp) ?_
        refine AllReadyH.cons rfl (fun K hK => ?_) AllReadyH.nil
        · go_simp
          go_at_call 68
          refine (F2.out _ (E0.trans EX)).mono ?_
          rintro e V3 ⟨rfl, q⟩
          replace EX := EX.trans q
          replace KG := KG.ext q
          refine hK.out _ _ trivial ?_
          clear hK K q
          intro hS
          (try simp only [Act.put, List.getElem_toArray, List.getElem_cons_succ, List.getElem_cons_zero, List.setIfInBounds_toArray, List.set_cons_zero, List.set_cons_succ])
          (refine wpAnyH_take (i := 8) (v := ?_) rfl (by kernel_rfl) (by kernel_rfl) (by kernel_rfl) (fun _ _ _ h => h) (Or.inl ⟨by rfl, ?_⟩) (by assumption) ?_; rotate_left; focus (intro w hSw; (try dsimp only at hSw); go_simp; try with_reducible rfl); try simp only [Act.put, List.getElem_toArray, List.getElem_cons_succ, List.getElem_cons_zero, List.setIfInBounds_toArray, List.set_cons_zero, List.set_cons_succ])
          (refine wpAnyH_ready (rs := [10]) (by kernel_rfl) (by simp) ?_; refine AllReadyH.cons rfl (fun K hK => ?_) AllReadyH.nil)
          rw [if_pos (by rfl)]
          refine wp_store_by _ _ _ rfl _ rfl (sto KG ⟨17, Pl.at2 xs 0, Pl.at2 xs 2, 0, 0, 0, 0⟩ AS (n - 8) (c - 8)) rfl ?_
          refine hK.out _ _ trivial ?_
          clear hK K
          intro hS
          (try simp only [Act.put, List.getElem_toArray, List.getElem_cons_succ, List.getElem_cons_zero, List.setIfInBounds_toArray, List.set_cons_zero, List.set_cons_succ])
          refine wpAnyH_done (by kernel_rfl) ?_ _
          have K8 := KG.row ((⟨17, Pl.at2 xs 0, Pl.at2 xs 2, 0, 0, 0, 0⟩ : Sg).cells (.slice AS (n - 8) (c - 8)))
          have E8 := EX.row hgl ((⟨17, Pl.at2 xs 0, Pl.at2 xs 2, 0, 0, 0, 0⟩ : Sg).cells (.slice AS (n - 8) (c - 8)))
          go_wp2_with fail
          go_meet
          exact ⟨_, rfl, hgl, K8, E8⟩
  obtain ⟨g, rfl, hgl, KG, EG⟩ := hcut
  have EW := E0.trans EG
  have KW := KR.ext EG
  have hww := KW.lt
  have hgw : g ≠ w.heap.size := by have := KR.lt; omega
  clear E0 EG KR F0 F2
  have hd : (⟨17, Pl.at2 xs 0, Pl.at2 xs 2, 0, 0, 0, 0⟩ : Sg) = Pl.decSeg 17 xs := rfl
  rw [hd] at KG
  clear hd
  generalize W0.heap.size = Z0 at *
  go_wp2_with fail
  refine (F6.out wc EW).mono ?_
  rintro e W1 ⟨rfl, q1⟩
  have E1 := EW.trans q1
  have KW1 := KW.ext q1
  have KG1 := KG.ext q1
  clear KW KG q1
  go_wp2_with fail
  refine (F4.out W1 E1).mono ?_
  rintro e W2 ⟨rfl, q2⟩
  have E2 := E1.trans q2
  have KW2 := KW1.ext q2
  have KG2 := KG1.ext q2
  clear KW1 KG1 q2 E1 EW F4 F6
  by_cases h4 : Pl.at2 xs 4 = (n : Int)
  case neg =>
    have HQ5 := Lib.hid (show Pl.segQ 17 xs over = 5 by
      rw [HQ.out, if_pos]
      rintro ⟨_, _, h⟩
      exact h4 (by rw [h rfl, HL.out]))
    have h4' : (Pl.at2 xs 4 != (n : Int)) = true := by simpa using h4
    have s0 := sto KW2 ⟨0, 0, 0, 0, 0, 0, 0⟩ none 0 0
    clear h4
    go_wp2_with ((apply store_by rfl _ _ _ rfl _ rfl); (focus (with_reducible assumption)); (focus rfl))
    refine bodyPost_ret (results_cell2 Tryd.results33 _ _ w.heap.size 50 #[.int .i64 0, .int .i64 0, .int .i64 0, .int .i64 0, .int .i64 0, .int .i64 0, .int .i64 0, .slice none 0 0] _ rfl (KW2.row _) Tryd.underlying50 rfl Tryd.sizeSeg) rfl (rdecGot_bad HQ5.out (by decide) (E2.row (Nat.le_refl _) _))
  have HI := Lib.hid (show Pl.IsSeg 17 xs from ⟨by rw [HL.out, show Pl.segSize 17 = 8 from rfl]; omega, (fun h => by cases h), fun _ => by rw [h4, HL.out]⟩)
  have h4' : (Pl.at2 xs 4 != (n : Int)) = false := by simpa using h4
  have hok : Pl.SegOk (Pl.decSeg 17 xs) (n - 8) := Pl.decSeg_ok (by decide) HB.out (by omega)
  have ld := KG2.seg
  clear h4
  go_wp2_with ((apply load_by rfl _ _ rfl _ rfl); (focus (with_reducible assumption)))
  refine (rcheckOf_any (Pl.decSeg 17 xs) AS (n - 8) (c - 8) (xs.drop 8) over W2 hok (HIS.out _ E2) (HB.out.drop 8) HO.out).mono ?_
  rintro e W3 ⟨rfl, q3⟩
  have E3 := E2.trans q3
  have KW3 := KW2.ext q3
  have KG3 := KG2.ext q3
  clear ld KW2 KG2 q3 E2 hok h4'
  by_cases hck : Pl.at2 xs 6 = Pl.segCheck (Pl.decSeg 17 xs) over (xs.drop 8)
  case neg =>
    have HQ6 := Lib.hid (show Pl.segQ 17 xs over = 6 by
      rw [HQ.out, if_neg (fun h => h HI.out), show Pl.segAt 17 = 6 from rfl, show Pl.segSize 17 = 8 from rfl, if_neg hck])
    have hck' : (Pl.at2 xs 6 != Pl.segCheck (Pl.decSeg 17 xs) over (xs.drop 8)) = true := by simpa using hck
    have s0 := sto KW3 ⟨0, 0, 0, 0, 0, 0, 0⟩ none 0 0
    clear hck
    go_wp2_with ((apply store_by rfl _ _ _ rfl _ rfl); (focus (with_reducible assumption)); (focus rfl))
    refine bodyPost_ret (results_cell2 Tryd.results33 _ _ w.heap.size 50 #[.int .i64 0, .int .i64 0, .int .i64 0, .int .i64 0, .int .i64 0, .int .i64 0, .int .i64 0, .slice none 0 0] _ rfl (KW3.row _) Tryd.underlying50 rfl Tryd.sizeSeg) rfl (rdecGot_bad HQ6.out (by decide) (E3.row (Nat.le_refl _) _))
  have HQ0 := Lib.hid (show Pl.segQ 17 xs over = 0 by
    rw [HQ.out, if_neg (fun h => h HI.out), show Pl.segAt 17 = 6 from rfl, show Pl.segSize 17 = 8 from rfl, if_pos hck])
  have hck' : (Pl.at2 xs 6 != Pl.segCheck (Pl.decSeg 17 xs) over (xs.drop 8)) = false := by simpa using hck
  have ld := KG3.seg
  have s2 := sto KW3 (Pl.decSeg 17 xs) AS (n - 8) (c - 8)
  clear hck
  go_wp2_with (first | ((apply load_by rfl _ _ rfl _ rfl); (focus (with_reducible assumption))) | ((apply store_by rfl _ _ _ rfl _ rfl); (focus (with_reducible assumption)); (focus rfl)))
  refine bodyPost_ret (results_cell2 Tryd.results33 _ _ w.heap.size 50 ((Pl.decSeg 17 xs).cells (.slice AS (n - 8) (c - 8))) _ rfl (KW3.row _) Tryd.underlying50 rfl Tryd.sizeSeg) rfl ?_
  refine ⟨AS, n - 8, c - 8, ?_, ?_, E3.row (Nat.le_refl _) _⟩
  · unfold Pl.segV
    rw [HQ0.out, if_pos rfl]
    rfl
  · unfold Pl.segD
    rw [HQ0.out, if_pos rfl]
    exact HIS.out _ (E3.row (Nat.le_refl _) _)
end Go.Proofs.YtkjchddidpjjmaaDoor
