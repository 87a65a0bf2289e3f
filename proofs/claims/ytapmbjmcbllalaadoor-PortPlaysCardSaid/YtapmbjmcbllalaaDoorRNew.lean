/- The document's NewPorts. Conditions: as each lemma states them. -/
import Derived.Test.YtapmbjmcbllalaaDoorRPort2
namespace Go.Proofs.YtapmbjmcbllalaaDoor
open Go.RowKit
def RS.zero (n : Nat) : RS := ⟨n, fun _ => six0, fun _ => false⟩
theorem Tryd.infoBool : (Tryd.prog.info? 4).map (fun i => (i.zero, i.size, i.bytes)) = some (some (.bool false), 1, 1) := by kernel_rfl
theorem zero_whos (n : Nat) : madeCells zc6 (8 * n * 8) = (RS.zero n).whos := by
  refine Array.ext_getElem? fun i => ?_
  by_cases hi : i < 8 * n * 8
  · rw [RS.whos_at (RS.zero n) (show i < 8 * (RS.zero n).n * 8 from hi)]
    unfold madeCells
    rw [Array.getElem?_map, Array.getElem?_range, if_pos hi]
    show some (zc6[i % 8]!) = _
    have h : i % 8 < 8 := Nat.mod_lt _ (by omega)
    unfold RS.cell
    generalize i % 8 = r at *
    have h : r = 0 ∨ r = 1 ∨ r = 2 ∨ r = 3 ∨ r = 4 ∨ r = 5 ∨ r = 6 ∨ r = 7 := by omega
    rcases h with rfl | rfl | rfl | rfl | rfl | rfl | rfl | rfl <;> rfl
  · rw [RS.whos_out (RS.zero n) (show ¬ i < 8 * (RS.zero n).n * 8 from hi), Array.getElem?_eq_none (by rw [size_madeCells]; omega)]
theorem zero_taken (n : Nat) : madeCells #[.bool false] (8 * n * 1) = (RS.zero n).taken := by
  refine Array.ext_getElem? fun i => ?_
  by_cases hi : i < 8 * n
  · rw [RS.taken_at (RS.zero n) (show i < 8 * (RS.zero n).n from hi)]
    unfold madeCells
    rw [Array.getElem?_map, Array.getElem?_range, if_pos (by omega)]
    show some ((#[Value.bool false] : Array Value)[i % 1]!) = _
    rw [Nat.mod_one]
    rfl
  · rw [RS.taken_out (RS.zero n) (show ¬ i < 8 * (RS.zero n).n from hi), Array.getElem?_eq_none (by rw [size_madeCells]; omega)]
theorem make_sixes (n N : Nat) (hN : 8 * n = N) (hn : n ≤ 16) (w : World) : (Instr.makeSlice 35 (.int .i64 (N : Int)) (.int .i64 (N : Int))).run Tryd.prog w = .ok (.slice (some ⟨w.heap.size, 0, none⟩) N N) (w.alloc (.cells (RS.zero n).whos 31)) := by
  obtain ⟨i, hi, he⟩ := Option.map_eq_some_iff.1 Tryd.infoSix
  obtain ⟨h0, h1, h2⟩ : i.zero = some (.agg zc6) ∧ i.size = 8 ∧ i.bytes = 64 := by simpa using he
  have := run_makeSlice (P := Tryd.prog) w 35 31 i (.agg zc6) Tryd.underlying35 hi h0 .i64 .i64 (N : Int) (N : Int) (by omega) (by omega) (by rw [h1, Int.toNat_natCast]; omega) (by rw [h2]; omega) (by omega)
  have hc : (Value.agg zc6).cells = zc6 := rfl
  rw [h1, Int.toNat_natCast, hc, ← hN, zero_whos] at this
  rw [← hN]
  exact this
theorem make_bools (n N : Nat) (hN : 8 * n = N) (hn : n ≤ 16) (w : World) : (Instr.makeSlice 64 (.int .i64 (N : Int)) (.int .i64 (N : Int))).run Tryd.prog w = .ok (.slice (some ⟨w.heap.size, 0, none⟩) N N) (w.alloc (.cells (RS.zero n).taken 4)) := by
  obtain ⟨i, hi, he⟩ := Option.map_eq_some_iff.1 Tryd.infoBool
  obtain ⟨h0, h1, h2⟩ : i.zero = some (.bool false) ∧ i.size = 1 ∧ i.bytes = 1 := by simpa using he
  have := run_makeSlice (P := Tryd.prog) w 64 4 i (.bool false) Tryd.underlying64 hi h0 .i64 .i64 (N : Int) (N : Int) (by omega) (by omega) (by rw [h1, Int.toNat_natCast]; omega) (by rw [h2]; omega) (by omega)
  have hc : (Value.bool false).cells = #[.bool false] := rfl
  rw [h1, Int.toNat_natCast, hc, ← hN, zero_taken] at this
  rw [← hN]
  exact this
/-- What NewPorts leaves. -/
def NewR (n : Nat) (w : World) (e : Ending) (w' : World) : Prop := ∃ gM gW gT, e = .returned (.pointer (some ⟨gM, 0, none⟩)) ∧ Rrt w' gM gW gT (RS.zero n) ∧ Ext w w' ∧ w.heap.size ≤ gM ∧ w.heap.size ≤ gW ∧ w.heap.size ≤ gT
set_option maxRecDepth 100000 in
set_option maxHeartbeats 1000000 in
theorem rnew_ok (n : Nat) (w : World) (h0 : 1 ≤ n) (h1 : n ≤ 16) : Calls Tryd.prog 19 #[.int .i64 (n : Int)] w (NewR n w) := by
  obtain ⟨N, hN⟩ : ∃ N, 8 * n = N := ⟨_, rfl⟩
  have hm1 := fun W => make_sixes n N hN h1 W
  have hm2 := fun W => make_bools n N hN h1 W
  have w1 : IntKind.i64.wrap ((n : Int) * 8) = (N : Int) := by rw [show (n : Int) * 8 = (N : Int) by omega]; exact IntWalk.i64_in _ (by omega)
  have key : ∀ W gW gT, Ext w W → gW ≠ gT → w.heap.size ≤ gW → w.heap.size ≤ gT → Blk W gW 31 (RS.zero n).whos → Blk W gT 4 (RS.zero n).taken →
      NewR n w (.returned (.pointer (some ⟨W.heap.size, 0, none⟩))) (W.alloc (.cells #[.slice (some ⟨gW, 0, none⟩) N N, .slice (some ⟨gT, 0, none⟩) N N] 66)) := fun W gW gT hE hne l1 l2 b1 b2 => by
    refine ⟨W.heap.size, gW, gT, rfl, ⟨?_, b1.alloc _, b2.alloc _, ⟨?_, ?_, hne⟩, h0, h1⟩, hE.alloc _, hE.size, l1, l2⟩
    · rw [show 8 * (RS.zero n).n = N from hN]; exact Blk.new _ _ _
    · have := b1.lt; omega
    · have := b2.lt; omega
  have KEY := Lib.hid key
  have HN := Lib.hid hN
  clear key hN
  go_enter Tryd.func19, Tryd.ntmps19
  go_wp2_with fail
  refine wp_region_held_drew (S := (fun _ => True)) (by kernel_rfl) trivial (fun hS0 => ?_)
  have EX : Ext w w.drew := (Ext.refl w).drew
  generalize w.drew = V0 at *
  (refine wpAnyH_take (i := 0) (v := ?_) rfl (by kernel_rfl) (by kernel_rfl) (by kernel_rfl) (fun _ _ _ h => h) (Or.inl ⟨by rfl, ?_⟩) (by assumption) ?_; rotate_left; focus (intro w hSw; (try dsimp only at hSw); go_simp; try with_reducible rfl); try simp only [Act.put, List.getElem_toArray, List.getElem_cons_succ, List.getElem_cons_zero, List.setIfInBounds_toArray, List.set_cons_zero, List.set_cons_succ])
  (refine wpAnyH_take (i := 1) (v := ?_) rfl (by kernel_rfl) (by kernel_rfl) (by kernel_rfl) (fun _ _ _ h => h) (Or.inl ⟨by rfl, ?_⟩) (by assumption) ?_; rotate_left; focus (intro w hSw; (try dsimp only at hSw); go_simp; try with_reducible rfl); try simp only [Act.put, List.getElem_toArray, List.getElem_cons_succ, List.getElem_cons_zero, List.setIfInBounds_toArray, List.set_cons_zero, List.set_cons_succ])
  (refine wpAnyH_take (i := 3) (v := ?_) rfl (by kernel_rfl) (by kernel_rfl) (by kernel_rfl) (fun _ _ _ h => h) (Or.inl ⟨by rfl, ?_⟩) (by assumption) ?_; rotate_left; focus (intro w hSw; (try dsimp only at hSw); go_simp; try with_reducible rfl); try simp only [Act.put, List.getElem_toArray, List.getElem_cons_succ, List.getElem_cons_zero, List.setIfInBounds_toArray, List.set_cons_zero, List.set_cons_succ])
  (refine wpAnyH_take (i := 4) (v := ?_) rfl (by kernel_rfl) (by kernel_rfl) (by kernel_rfl) (fun _ _ _ h => h) (Or.inl ⟨by rfl, ?_⟩) (by assumption) ?_; rotate_left; focus (intro w hSw; (try dsimp only at hSw); go_simp; try with_reducible rfl); try simp only [Act.put, List.getElem_toArray, List.getElem_cons_succ, List.getElem_cons_zero, List.setIfInBounds_toArray, List.set_cons_zero, List.set_cons_succ])
  refine wpAnyH_ready (rs := [2, 5]) (by kernel_rfl) (by simp) ?_
  refine AllReadyH.cons rfl (fun K hK => ?_) (AllReadyH.cons rfl (fun K hK => ?_) AllReadyH.nil)
  · go_simp
    have K1 := Blk.new V0 31 (RS.zero n).whos
    have EX1 := EX.alloc (.cells (RS.zero n).whos 31)
    have hz1 := EX.size
    refine hK.out _ _ trivial ?_
    clear hK K EX
    intro hS
    (try simp only [Act.put, List.getElem_toArray, List.getElem_cons_succ, List.getElem_cons_zero, List.setIfInBounds_toArray, List.set_cons_zero, List.set_cons_succ])
    generalize V0.alloc (.cells (RS.zero n).whos 31) = V1 at *
    refine wpAnyH_ready (rs := [5]) (by kernel_rfl) (by simp) ?_
    refine AllReadyH.cons rfl (fun K hK => ?_) AllReadyH.nil
    go_simp
    have KT := Blk.new V1 4 (RS.zero n).taken
    have KW := K1.alloc (.cells (RS.zero n).taken 4)
    have EX2 := EX1.alloc (.cells (RS.zero n).taken 4)
    have hz2 := EX1.size
    have hlt := K1.lt
    refine hK.out _ _ trivial ?_
    clear hK K K1
    intro hS
    (try simp only [Act.put, List.getElem_toArray, List.getElem_cons_succ, List.getElem_cons_zero, List.setIfInBounds_toArray, List.set_cons_zero, List.set_cons_succ])
    generalize V1.alloc (.cells (RS.zero n).taken 4) = V2 at *
    (refine wpAnyH_take (i := 6) (v := ?_) rfl (by kernel_rfl) (by kernel_rfl) (by kernel_rfl) (fun _ _ _ h => h) (Or.inl ⟨by rfl, ?_⟩) (by assumption) ?_; rotate_left; focus (intro w hSw; (try dsimp only at hSw); go_simp; try with_reducible rfl); try simp only [Act.put, List.getElem_toArray, List.getElem_cons_succ, List.getElem_cons_zero, List.setIfInBounds_toArray, List.set_cons_zero, List.set_cons_succ])
    (try simp only [Act.put, List.getElem_toArray, List.getElem_cons_succ, List.getElem_cons_zero, List.setIfInBounds_toArray, List.set_cons_zero, List.set_cons_succ])
    (refine wpAnyH_ready (rs := [7]) (by kernel_rfl) (by simp) ?_; refine AllReadyH.cons rfl (fun K hK => ?_) AllReadyH.nil)
    go_simp
    have HZ := Lib.hid (KEY.out V2 V0.heap.size V1.heap.size EX2 (by omega) hz1 hz2 KW KT)
    refine hK.out _ _ trivial ?_
    clear hK K
    intro hS
    (try simp only [Act.put, List.getElem_toArray, List.getElem_cons_succ, List.getElem_cons_zero, List.setIfInBounds_toArray, List.set_cons_zero, List.set_cons_succ])
    (refine wpAnyH_take (i := 8) (v := ?_) rfl (by kernel_rfl) (by kernel_rfl) (by kernel_rfl) (fun _ _ _ h => h) (Or.inl ⟨by rfl, ?_⟩) (by assumption) ?_; rotate_left; focus (intro w hSw; (try dsimp only at hSw); go_simp; try with_reducible rfl); try simp only [Act.put, List.getElem_toArray, List.getElem_cons_succ, List.getElem_cons_zero, List.setIfInBounds_toArray, List.set_cons_zero, List.set_cons_succ])
    refine wpAnyH_done (by kernel_rfl) ?_ _
    clear KW KT EX2 EX1
    go_wp2_with fail
    go_returns
    exact HZ.out
  · go_simp
    have K1 := Blk.new V0 4 (RS.zero n).taken
    have EX1 := EX.alloc (.cells (RS.zero n).taken 4)
    have hz1 := EX.size
    refine hK.out _ _ trivial ?_
    clear hK K EX
    intro hS
    (try simp only [Act.put, List.getElem_toArray, List.getElem_cons_succ, List.getElem_cons_zero, List.setIfInBounds_toArray, List.set_cons_zero, List.set_cons_succ])
    generalize V0.alloc (.cells (RS.zero n).taken 4) = V1 at *
    refine wpAnyH_ready (rs := [2]) (by kernel_rfl) (by simp) ?_
    refine AllReadyH.cons rfl (fun K hK => ?_) AllReadyH.nil
    go_simp
    have KW := Blk.new V1 31 (RS.zero n).whos
    have KT := K1.alloc (.cells (RS.zero n).whos 31)
    have EX2 := EX1.alloc (.cells (RS.zero n).whos 31)
    have hz2 := EX1.size
    have hlt := K1.lt
    refine hK.out _ _ trivial ?_
    clear hK K K1
    intro hS
    (try simp only [Act.put, List.getElem_toArray, List.getElem_cons_succ, List.getElem_cons_zero, List.setIfInBounds_toArray, List.set_cons_zero, List.set_cons_succ])
    generalize V1.alloc (.cells (RS.zero n).whos 31) = V2 at *
    (refine wpAnyH_take (i := 6) (v := ?_) rfl (by kernel_rfl) (by kernel_rfl) (by kernel_rfl) (fun _ _ _ h => h) (Or.inl ⟨by rfl, ?_⟩) (by assumption) ?_; rotate_left; focus (intro w hSw; (try dsimp only at hSw); go_simp; try with_reducible rfl); try simp only [Act.put, List.getElem_toArray, List.getElem_cons_succ, List.getElem_cons_zero, List.setIfInBounds_toArray, List.set_cons_zero, List.set_cons_succ])
    (try simp only [Act.put, List.getElem_toArray, List.getElem_cons_succ, List.getElem_cons_zero, List.setIfInBounds_toArray, List.set_cons_zero, List.set_cons_succ])
    (refine wpAnyH_ready (rs := [7]) (by kernel_rfl) (by simp) ?_; refine AllReadyH.cons rfl (fun K hK => ?_) AllReadyH.nil)
    go_simp
    have HZ := Lib.hid (KEY.out V2 V1.heap.size V0.heap.size EX2 (by omega) hz2 hz1 KW KT)
    refine hK.out _ _ trivial ?_
    clear hK K
    intro hS
    (try simp only [Act.put, List.getElem_toArray, List.getElem_cons_succ, List.getElem_cons_zero, List.setIfInBounds_toArray, List.set_cons_zero, List.set_cons_succ])
    (refine wpAnyH_take (i := 8) (v := ?_) rfl (by kernel_rfl) (by kernel_rfl) (by kernel_rfl) (fun _ _ _ h => h) (Or.inl ⟨by rfl, ?_⟩) (by assumption) ?_; rotate_left; focus (intro w hSw; (try dsimp only at hSw); go_simp; try with_reducible rfl); try simp only [Act.put, List.getElem_toArray, List.getElem_cons_succ, List.getElem_cons_zero, List.setIfInBounds_toArray, List.set_cons_zero, List.set_cons_succ])
    refine wpAnyH_done (by kernel_rfl) ?_ _
    clear KW KT EX2 EX1
    go_wp2_with fail
    go_returns
    exact HZ.out
end Go.Proofs.YtapmbjmcbllalaaDoor
