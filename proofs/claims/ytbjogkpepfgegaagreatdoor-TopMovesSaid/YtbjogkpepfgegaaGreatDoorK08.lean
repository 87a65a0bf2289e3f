/- package embed: Out. Conditions: as each theorem states them. -/
import Derived.Test.YtbjogkpepfgegaaGreatDoorK03
namespace Go.Proofs.YtbjogkpepfgegaaGreatDoor
open Go.RowKit Go.Shelf
attribute [local go_sem] Oper.semAt_some
namespace Pl
/-- The number of the bytes at some places. -/
def val (b : List Int) (pre : List (Fin 4 × Fin 16)) : Int := pre.foldl (fun v p => v * 256 + b.getD p.2.val 0) 0
def last (pre : List (Fin 4 × Fin 16)) : Int := pre.foldl (fun _ p => ((p.2.val : Nat) : Int)) 0
theorem val_snoc (b : List Int) (pre : List (Fin 4 × Fin 16)) (p : Fin 4 × Fin 16) : val b (pre ++ [p]) = val b pre * 256 + b.getD p.2.val 0 := by simp [val]
theorem last_snoc (pre : List (Fin 4 × Fin 16)) (p : Fin 4 × Fin 16) : last (pre ++ [p]) = ((p.2.val : Nat) : Int) := by simp [last]
theorem val_bd {b : List Int} (hb : IsB b) (pre : List (Fin 4 × Fin 16)) (h : pre.length < 4) : 0 ≤ val b pre ∧ val b pre < 16777216 := by
  have key : ∀ (l : List (Fin 4 × Fin 16)) (v : Int), 0 ≤ v → ∀ k : Nat, v < 256 ^ k → 0 ≤ l.foldl (fun v p => v * 256 + b.getD p.2.val 0) v ∧ l.foldl (fun v p => v * 256 + b.getD p.2.val 0) v < 256 ^ (k + l.length) := by
    intro l
    induction l with
    | nil => intro v h0 k hk; exact ⟨h0, hk⟩
    | cons p r ih =>
      intro v h0 k hk
      have hx := hb.getD p.2.val
      have h1 := ih (v * 256 + b.getD p.2.val 0) (by omega) (k + 1) (by rw [Int.pow_succ]; omega)
      rw [show k + 1 + r.length = k + (p :: r).length from by simp; omega] at h1
      exact h1
  have h0 := key pre 0 (by omega) 0 (by decide)
  refine ⟨h0.1, Int.lt_of_lt_of_le h0.2 ?_⟩
  have : pre.length = 0 ∨ pre.length = 1 ∨ pre.length = 2 ∨ pre.length = 3 := by omega
  rcases this with h | h | h | h <;> rw [h] <;> decide
/-- Is there nothing where nothing may be? -/
def tailC (b : List Int) (m : Nat) : Prop := b.getD 8 0 = 0 ∧ ∀ i : Nat, spot m 3 < i → i < 16 → b.getD i 0 = 0
instance (b : List Int) (m : Nat) : Decidable (tailC b m) := decidable_of_iff (b.getD 8 0 = 0 ∧ ∀ i : Nat, i < 16 → spot m 3 < i → b.getD i 0 = 0) ⟨fun h => ⟨h.1, fun i a b => h.2 i b a⟩, fun h => ⟨h.1, fun i a b => h.2 i b a⟩⟩
def outErr (s : Six) (n : Int) : Int := if okS s = true then (if longB n = true then (if tailC (two s.l) (n / 8).toNat then 0 else 2) else 1) else 1
def outVal (s : Six) (n : Int) : Int := if outErr s n = 0 then val (two s.l) (spots (n / 8).toNat) else 0
theorem spots_last (m : Nat) (h : m ≤ 12) : last (spots m) = ((spot m 3 : Nat) : Int) := by
  have : last (spots m) = (((sp m 3).2.val : Nat) : Int) := rfl
  rw [this, sp_snd h (by omega)]
end Pl
set_option maxRecDepth 100000 in
set_option maxHeartbeats 1000000 in
theorem out_no (s : Six) (n : Int) (w : World) (h : ¬ (okS s = true ∧ Pl.longB n = true)) :
    Calls Tryz.prog 65 #[s.v, .int .i64 n] w fun e w' => e = .returned (.tuple #[.int .i64 0, errv 1]) ∧ Ext w w' := by
  have K0 := Blk.new w 23 s.cells
  have E0 : Ext w (w.alloc (.cells s.cells 23)) := (Ext.refl w).alloc _
  have l0 := K0.six0
  by_cases hs : okS s = true
  case neg =>
    have HS := Lib.hid (show okS s = false by simpa using hs)
    clear hs h
    go_enter Tryz.func65, Tryz.ntmps65
    go_wp2_with ((apply load_by rfl _ _ rfl _ rfl); (focus (with_reducible assumption)))
    refine (check6_no s _ HS.out).mono ?_
    rintro e W1 ⟨rfl, q1⟩
    have E1 := E0.trans q1
    clear l0
    unfold errv
    go_wp2_with fail
    go_ret2
    exact ⟨rfl, E1⟩
  have HS := Lib.hid hs
  have hl : Pl.longB n = false := by
    cases hb : Pl.longB n
    · rfl
    · exact absurd ⟨hs, hb⟩ h
  have HL := Lib.hid hl
  clear hs hl h
  go_enter Tryz.func65, Tryz.ntmps65
  go_wp2_with ((apply load_by rfl _ _ rfl _ rfl); (focus (with_reducible assumption)))
  refine (check6_yes s _ HS.out).mono ?_
  rintro e W1 ⟨rfl, q1⟩
  have E1 := E0.trans q1
  clear l0
  go_wp2_with fail
  refine (long_any n _).mono ?_
  rintro e w' ⟨rfl, rfl⟩
  rw [HL.out]
  go_wp2_with fail
  go_ret2
  exact ⟨rfl, E1⟩
set_option maxRecDepth 100000 in
set_option maxHeartbeats 4000000 in
theorem out_ok (s : Six) (m : Nat) (w : World) (hs : okS s = true) (hm : 4 ≤ m ∧ m ≤ 12) (hl : Pl.longB (8 * (m : Int)) = true) :
    Calls Tryz.prog 65 #[s.v, .int .i64 (8 * (m : Int))] w fun e w' => e = .returned (.tuple #[.int .i64 (Pl.outVal s (8 * (m : Int))), erv (Pl.outErr s (8 * (m : Int)))]) ∧ Ext w w' := by
  have K0 := Blk.new w 23 s.cells
  have E0 : Ext w (w.alloc (.cells s.cells 23)) := (Ext.refl w).alloc _
  have l0 := K0.six0
  have HL := Lib.hid hl
  have hm8 : ((8 * (m : Int)) / 8).toNat = m := by omega
  have hoe : Pl.outErr s (8 * (m : Int)) = if Pl.tailC (Pl.two s.l) m then 0 else 2 := by unfold Pl.outErr; rw [if_pos hs, if_pos hl, hm8]
  have hov : Pl.outVal s (8 * (m : Int)) = if Pl.tailC (Pl.two s.l) m then Pl.val (Pl.two s.l) (Pl.spots m) else 0 := by
    unfold Pl.outVal
    rw [hoe, hm8]
    by_cases h : Pl.tailC (Pl.two s.l) m
    · rw [if_pos h, if_pos rfl, if_pos h]
    · rw [if_neg h, if_neg (by decide), if_neg h]
  have HOE := Lib.hid hoe
  have HOV := Lib.hid hov
  have HIB := Lib.hid (Six.isB hs)
  clear hl hoe hov hm8
  refine callsIn_wide.1 (callsIn_of_wp_marks (F := Fence.wide) (n := 9) Tryz.func65 rfl trivial (wpIn_wide.2 ?_))
  simp only [Tryz.ntmps65, List.size_toArray, List.length_cons, List.length_nil, Nat.reduceAdd, Nat.reduceSub, Array.replicate_succ, Array.replicate_zero, List.push_toArray, List.append_toArray, List.nil_append, List.cons_append]
  go_wp2_with ((apply load_by rfl _ _ rfl _ rfl); (focus (with_reducible assumption)))
  refine (check6_yes s _ hs).mono ?_
  rintro e W1 ⟨rfl, q1⟩
  have K1 := K0.ext q1
  have E1 := E0.trans q1
  have l1 := K1.six0
  clear l0 K0 E0 q1
  go_wp2_with fail
  refine (long_any _ _).mono ?_
  rintro e w' ⟨rfl, rfl⟩
  rw [HL.out]
  go_wp2_with ((apply load_by rfl _ _ rfl _ rfl); (focus (with_reducible assumption)))
  refine (raw6_any s _ hs).mono ?_
  rintro e W2 ⟨v2, rfl, o2, q2⟩
  obtain ⟨a2, n2, c2, rfl, _, r2⟩ := o2.read
  obtain rfl : 16 = n2 := r2.len
  obtain ⟨g2, f2, rfl, hg2, _⟩ := r2.at (by decide)
  have E2 := E1.trans q2
  have hg2' : w.heap.size ≤ g2 := by have h1 := (o2.lt g2 rfl).1; have h2 := E1.size; omega
  clear l1 K1 E1 q2 o2
  generalize Pl.two s.l = xs at *
  have X3 : Ext W2 (((W2.alloc (.cells #[.slice (some ⟨g2, f2, none⟩) 16 c2] 37)).alloc (.cells #[.int .i64 0] 3)).alloc (.cells #[.int .i64 0] 3)) := (((Ext.refl W2).alloc _).alloc _).alloc _
  have K7 := ((Blk.new W2 37 #[.slice (some ⟨g2, f2, none⟩) 16 c2]).alloc (.cells #[.int .i64 0] 3)).alloc (.cells #[.int .i64 0] 3)
  have K8 := (Blk.at (n := W2.heap.size + 1) (W2.alloc (.cells #[.slice (some ⟨g2, f2, none⟩) 16 c2] 37)) 3 #[.int .i64 0] (by simp)).alloc (.cells #[.int .i64 0] 3)
  have K9 := Blk.at (n := W2.heap.size + 1 + 1) ((W2.alloc (.cells #[.slice (some ⟨g2, f2, none⟩) 16 c2] 37)).alloc (.cells #[.int .i64 0] 3)) 3 #[.int .i64 0] (by simp)
  go_wp2_with fail
  refine at_world (fun W => Ext W2 W ∧ Blk W W2.heap.size 37 #[.slice (some ⟨g2, f2, none⟩) 16 c2] ∧ Blk W (W2.heap.size + 1) 3 #[.int .i64 0] ∧ Blk W (W2.heap.size + 1 + 1) 3 #[.int .i64 0]) ⟨X3, K7, K8, K9⟩ ?_
  clear X3 K7 K8 K9
  rintro W4 ⟨X4, K7, K8, K9⟩
  have hs4 := K9.lt
  have Ks := spots_any (8 * (m : Int)) W4
  refine Ks.mono ?_
  clear Ks
  rintro e W5 ⟨rfl, KB, q5⟩
  have X5 := X4.trans q5
  have E5 := E2.trans X5
  have K7 := K7.ext q5
  have K8 := K8.ext q5
  have K9 := K9.ext q5
  have i5 := r2.ext X5
  have h45 := KB.lt
  clear X4 q5 r2 E2
  go_wp2_with fail
  have h7 : g2 < W2.heap.size := hg2
  refine wpIn_wide.1 (wpIn_rangeFunc_ownF (F := Fence.wide) (n := 9) rfl (by decide) (gf := 107) (lb := #[.pointer (some ⟨W4.heap.size, 0, none⟩)]) rfl trivial (enters_of Tryz.func107 (by kernel_rfl) rfl)
    (spots_stops Fence.wide 8 trivial rfl (by decide) w.heap.size W4.heap.size m hm W5 KB) belowK_t (belowK_b E5.size) (Below.refl _ _) (fun _ => rfl)
    (fun pre W => (Blk W W2.heap.size 37 #[.slice (some ⟨g2, f2, none⟩) 16 c2] ∧ Blk W (W2.heap.size + 1) 3 #[.int .i64 (Pl.val xs pre)] ∧ Blk W (W2.heap.size + 1 + 1) 3 #[.int .i64 (Pl.last pre)] ∧ Ints .u8 W (some ⟨g2, f2, none⟩) 16 xs) ∧ Ext w W)
    (fun _ _ _ => False)
    (OwnFrom.and (_root_.Go.Own.from (fun s A B row hs hg hr => ⟨kept_row hs.1 hg hr, kept_row hs.2.1 hg hr, kept_row hs.2.2.1 hg hr, kept_ints hs.2.2.2 hg hr⟩) _) (ownFrom_below (Nat.le_refl _) E5.size))
    (fun _ _ _ _ _ hs _ _ => hs)
    ⟨⟨K7, K8, K9, i5⟩, E5⟩
    (fun x => { tmps := #[s.v, .int .i64 (8 * (m : Int)), .pointer (some ⟨w.heap.size, 0, none⟩), undef, .int .i64 0, .nilIface, .nilIface, .pointer (some ⟨W2.heap.size, 0, none⟩), .pointer (some ⟨W2.heap.size + 1, 0, none⟩), .pointer (some ⟨W2.heap.size + 1 + 1, 0, none⟩), undef,
      .int .i64 ((x.2.val : Nat) : Int), undef, .agg s.cells, .nilIface, .nilIface, .bool false, undef, .int .i64 (8 * (m : Int)), .bool true, .bool false, undef, .agg s.cells, .slice (some ⟨g2, f2, none⟩) 16 c2, .int .i64 (8 * (m : Int)), .func (.func 107) #[] #[.pointer (some ⟨W4.heap.size, 0, none⟩)],
      .int .i64 ((x.1.val : Nat) : Int), .int .i64 ((x.2.val : Nat) : Int), undef, undef, undef, undef, undef, undef, undef, undef, undef, undef, undef, undef, undef, undef, undef, undef, undef, undef, undef, undef, undef, undef, undef, undef, undef, undef, undef, undef, undef], defers := [] }) ?assign ?body ?done ?stop)
  case assign =>
    intro l x W K hK
    gi_wp2
    exact hK
  case body =>
    rintro l pre x W ⟨⟨k7, k8, k9, i⟩, hB⟩ hlen
    have e7 : W.drew.cell? ⟨W2.heap.size, 0, none⟩ = some (.slice (some ⟨g2, f2, none⟩) 16 c2) := k7.cells 0
    have e8 : W.drew.cell? ⟨W2.heap.size + 1, 0, none⟩ = some (.int .i64 (Pl.val xs pre)) := k8.cells 0
    have e9 : W.drew.cell? ⟨W2.heap.size + 1 + 1, 0, none⟩ = some (.int .i64 (Pl.last pre)) := k9.cells 0
    have f8 := k8.free 0
    have f9 := k9.free 0
    obtain ⟨g2', f2', hbo, hbl2, hc2⟩ := i.at (by decide)
    cases hbo
    have ci : W.drew.cell? ⟨g2, f2 + x.2.val, none⟩ = _ := hc2 x.2.val x.2.isLt
    have hx2 := x.2.isLt
    have l2 : ((x.2.val : Nat) : Int) < 16 := by omega
    have hv := Pl.val_bd HIB.out pre hlen
    have hy := HIB.out.getD x.2.val
    have hvs := Pl.val_snoc xs pre x
    have hls := Pl.last_snoc pre x
    generalize Pl.val xs pre = v at *
    generalize xs.getD x.2.val 0 = y at *
    have HVS := Lib.hid hvs
    have HLS := Lib.hid hls
    have eor : bits BinOp.or IntKind.i64 (v * 256) y = v * 256 + y := or8 (by omega) (by omega) (by omega) (by omega) (by omega)
    have ew1 : IntKind.i64.wrap y = y := IntWalk.i64_in _ (by omega)
    have ew2 : IntKind.i64.wrap (v * 256) = v * 256 := IntWalk.i64_in _ (by omega)
    clear hvs hls
    gi_wp2
    refine wpIn_region_round (S := fun w' => w'.cell? ⟨W2.heap.size, 0, none⟩ = some (.slice (some ⟨g2, f2, none⟩) 16 c2) ∧ w'.cell? ⟨g2, f2 + x.2.val, none⟩ = some (.int .u8 y)) (by kernel_rfl) (by kernel_rfl) (fun ⟨_, _, h⟩ => h) ⟨e7, ci⟩ (fun hS0 => ?_)
    (refine wpAnyH_take (i := 2) (v := ?_) rfl (by kernel_rfl) (by kernel_rfl) (by kernel_rfl) (fun _ _ _ h => h) (Or.inl ⟨by rfl, ?_⟩) (by assumption) ?_; rotate_left; focus (intro w hSw; (try dsimp only at hSw); go_simp; try with_reducible rfl); try simp only [Act.put, List.getElem_toArray, List.getElem_cons_succ, List.getElem_cons_zero, List.setIfInBounds_toArray, List.set_cons_zero, List.set_cons_succ])
    (refine wpAnyH_take (i := 3) (v := ?_) rfl (by kernel_rfl) (by kernel_rfl) (by kernel_rfl) (fun _ _ _ h => h) (Or.inl ⟨by rfl, ?_⟩) (by assumption) ?_; rotate_left; focus (intro w hSw; (try dsimp only at hSw); go_simp; try with_reducible rfl); try simp only [Act.put, List.getElem_toArray, List.getElem_cons_succ, List.getElem_cons_zero, List.setIfInBounds_toArray, List.set_cons_zero, List.set_cons_succ])
    (refine wpAnyH_take (i := 4) (v := ?_) rfl (by kernel_rfl) (by kernel_rfl) (by kernel_rfl) (fun _ _ _ h => h) (Or.inl ⟨by rfl, ?_⟩) (by assumption) ?_; rotate_left; focus (intro w hSw; (try dsimp only at hSw); go_simp; try with_reducible rfl); try simp only [Act.put, List.getElem_toArray, List.getElem_cons_succ, List.getElem_cons_zero, List.setIfInBounds_toArray, List.set_cons_zero, List.set_cons_succ])
    (refine wpAnyH_take (i := 5) (v := ?_) rfl (by kernel_rfl) (by kernel_rfl) (by kernel_rfl) (fun _ _ _ h => h) (Or.inl ⟨by rfl, ?_⟩) (by assumption) ?_; rotate_left; focus (intro w hSw; (try dsimp only at hSw); go_simp; try with_reducible rfl); try simp only [Act.put, List.getElem_toArray, List.getElem_cons_succ, List.getElem_cons_zero, List.setIfInBounds_toArray, List.set_cons_zero, List.set_cons_succ])
    (refine wpAnyH_take (i := 6) (v := ?_) rfl (by kernel_rfl) (by kernel_rfl) (by kernel_rfl) (fun _ _ _ h => h) (Or.inl ⟨by rfl, ?_⟩) (by assumption) ?_; rotate_left; focus (intro w hSw; (try dsimp only at hSw); go_simp; try with_reducible rfl); try simp only [Act.put, List.getElem_toArray, List.getElem_cons_succ, List.getElem_cons_zero, List.setIfInBounds_toArray, List.set_cons_zero, List.set_cons_succ])
    (refine wpAnyH_take (i := 8) (v := ?_) rfl (by kernel_rfl) (by kernel_rfl) (by kernel_rfl) (fun _ _ _ h => h) (Or.inl ⟨by rfl, ?_⟩) (by assumption) ?_; rotate_left; focus (intro w hSw; (try dsimp only at hSw); go_simp; try with_reducible rfl); try simp only [Act.put, List.getElem_toArray, List.getElem_cons_succ, List.getElem_cons_zero, List.setIfInBounds_toArray, List.set_cons_zero, List.set_cons_succ])
    (refine wpAnyH_ready (rs := [0]) (by kernel_rfl) (by simp) ?_; refine AllReadyH.cons rfl (fun K hK => ?_) AllReadyH.nil)
    go_simp
    refine hK.out _ _ hS0 ?_
    clear hK K
    intro hS
    (try simp only [Act.put, List.getElem_toArray, List.getElem_cons_succ, List.getElem_cons_zero, List.setIfInBounds_toArray, List.set_cons_zero, List.set_cons_succ])
    (refine wpAnyH_take (i := 1) (v := ?_) rfl (by kernel_rfl) (by kernel_rfl) (by kernel_rfl) (fun _ _ _ h => h) (Or.inl ⟨by rfl, ?_⟩) (by assumption) ?_; rotate_left; focus (intro w hSw; (try dsimp only at hSw); go_simp; try with_reducible rfl); try simp only [Act.put, List.getElem_toArray, List.getElem_cons_succ, List.getElem_cons_zero, List.setIfInBounds_toArray, List.set_cons_zero, List.set_cons_succ])
    (refine wpAnyH_take (i := 7) (v := ?_) rfl (by kernel_rfl) (by kernel_rfl) (by kernel_rfl) (fun _ _ _ h => h) (Or.inl ⟨by rfl, ?_⟩) (by assumption) ?_; rotate_left; focus (intro w hSw; (try dsimp only at hSw); go_simp; try with_reducible rfl); try simp only [Act.put, List.getElem_toArray, List.getElem_cons_succ, List.getElem_cons_zero, List.setIfInBounds_toArray, List.set_cons_zero, List.set_cons_succ])
    (refine wpAnyH_ready (rs := [9]) (by kernel_rfl) (by simp) ?_; refine AllReadyH.cons rfl (fun K hK => ?_) AllReadyH.nil)
    go_simp
    have S9 : (W.setCell ⟨W2.heap.size + 1, 0, none⟩ (.int .i64 (v * 256 + y))).drew.cell? ⟨W2.heap.size, 0, none⟩ = some (.slice (some ⟨g2, f2, none⟩) 16 c2) ∧ (W.setCell ⟨W2.heap.size + 1, 0, none⟩ (.int .i64 (v * 256 + y))).drew.cell? ⟨g2, f2 + x.2.val, none⟩ = some (.int .u8 y) :=
      ⟨(cell_off (w := W) (by show ¬ W2.heap.size = W2.heap.size + 1; omega) _).trans hS0.1, (cell_off (w := W) (by show ¬ g2 = W2.heap.size + 1; omega) _).trans hS0.2⟩
    have e9' : (W.setCell ⟨W2.heap.size + 1, 0, none⟩ (.int .i64 (v * 256 + y))).drew.cell? ⟨W2.heap.size + 1 + 1, 0, none⟩ = some (.int .i64 (Pl.last pre)) := (cell_off (w := W) (by show ¬ W2.heap.size + 1 + 1 = W2.heap.size + 1; omega) _).trans e9
    refine hK.out _ _ S9 ?_
    clear hK K
    intro hS9
    (try simp only [Act.put, List.getElem_toArray, List.getElem_cons_succ, List.getElem_cons_zero, List.setIfInBounds_toArray, List.set_cons_zero, List.set_cons_succ])
    (refine wpAnyH_ready (rs := [10]) (by kernel_rfl) (by simp) ?_; refine AllReadyH.cons rfl (fun K hK => ?_) AllReadyH.nil)
    go_simp
    have S10 : ((W.setCell ⟨W2.heap.size + 1, 0, none⟩ (.int .i64 (v * 256 + y))).setCell ⟨W2.heap.size + 1 + 1, 0, none⟩ (.int .i64 ((x.2.val : Nat) : Int))).drew.cell? ⟨W2.heap.size, 0, none⟩ = some (.slice (some ⟨g2, f2, none⟩) 16 c2) ∧
        ((W.setCell ⟨W2.heap.size + 1, 0, none⟩ (.int .i64 (v * 256 + y))).setCell ⟨W2.heap.size + 1 + 1, 0, none⟩ (.int .i64 ((x.2.val : Nat) : Int))).drew.cell? ⟨g2, f2 + x.2.val, none⟩ = some (.int .u8 y) :=
      ⟨(cell_off (w := W.setCell _ _) (by show ¬ W2.heap.size = W2.heap.size + 1 + 1; omega) _).trans S9.1, (cell_off (w := W.setCell _ _) (by show ¬ g2 = W2.heap.size + 1 + 1; omega) _).trans S9.2⟩
    refine hK.out _ _ S10 ?_
    clear hK K
    intro hS10
    (try simp only [Act.put, List.getElem_toArray, List.getElem_cons_succ, List.getElem_cons_zero, List.setIfInBounds_toArray, List.set_cons_zero, List.set_cons_succ])
    refine wpAnyH_done (by kernel_rfl) ?_ _
    have k7' := (k7.far (p := ⟨W2.heap.size + 1, 0, none⟩) (by show W2.heap.size ≠ W2.heap.size + 1; omega) (.int .i64 (v * 256 + y))).far (p := ⟨W2.heap.size + 1 + 1, 0, none⟩) (by show W2.heap.size ≠ W2.heap.size + 1 + 1; omega) (.int .i64 ((x.2.val : Nat) : Int))
    have k8' := (k8.put 0 (.int .i64 (v * 256 + y))).far (p := ⟨W2.heap.size + 1 + 1, 0, none⟩) (by show W2.heap.size + 1 ≠ W2.heap.size + 1 + 1; omega) (.int .i64 ((x.2.val : Nat) : Int))
    have k9' := (k9.far (p := ⟨W2.heap.size + 1, 0, none⟩) (by show W2.heap.size + 1 + 1 ≠ W2.heap.size + 1; omega) (.int .i64 (v * 256 + y))).put 0 (.int .i64 ((x.2.val : Nat) : Int))
    have hb1 : Below w.heap.size W ((W.setCell ⟨W2.heap.size + 1, 0, none⟩ (.int .i64 (v * 256 + y))).setCell ⟨W2.heap.size + 1 + 1, 0, none⟩ (.int .i64 ((x.2.val : Nat) : Int))) := ((Below.refl _ W).setCell (p := ⟨W2.heap.size + 1, 0, none⟩) (by show w.heap.size ≤ W2.heap.size + 1; omega) _).setCell (p := ⟨W2.heap.size + 1 + 1, 0, none⟩) (by show w.heap.size ≤ W2.heap.size + 1 + 1; omega) _
    have i' : Ints .u8 ((W.setCell ⟨W2.heap.size + 1, 0, none⟩ (.int .i64 (v * 256 + y))).setCell ⟨W2.heap.size + 1 + 1, 0, none⟩ (.int .i64 ((x.2.val : Nat) : Int))) (some ⟨g2, f2, none⟩) 16 xs := ⟨i.len, .inr ⟨g2, f2, rfl, fun j hj => (cell_off (by show ¬ g2 = W2.heap.size + 1 + 1; omega) _).trans ((cell_off (by show ¬ g2 = W2.heap.size + 1; omega) _).trans (hc2 j hj))⟩⟩
    refine ⟨((KeepsOthers.setCell _ _ _).trans (KeepsOthers.setCell _ _ _)).trans (KeepsOthers.drew _), hb1.drew, ⟨⟨k7'.drew, ?_, ?_, i'.drew⟩, (Below.trans hB hb1).drew⟩⟩
    · rw [HVS.out]; exact k8'.drew
    · rw [HLS.out]; exact k9'.drew
  case done =>
    rintro D ys W hD rfl ⟨⟨k7, k8, k9, i⟩, hB⟩ hK
    have e7 := k7.cells 0
    have e8 := k8.cells 0
    have e9 := k9.cells 0
    rw [Pl.spots_last m hm.2] at e9
    have hsl : Pl.spot m 3 ≤ 15 := Pl.spot_le hm.2 (by omega)
    obtain ⟨g2', f2', hbo, hbl2, hc2⟩ := i.at (by decide)
    cases hbo
    have HC := Lib.hid hc2
    have c8 := hc2 8 (by omega)
    have hE8 : Ext w (W.putObj D (.deferred none)) := hB.grown (grownBy_putObj' _ D (.deferred none)) hB.size (fun k e => by cases e; have := E5.size; omega)
    have HE8 := Lib.hid hE8
    have HK := Lib.hid hK
    generalize hgs : Pl.spot m 3 = sp at *
    have HGS := Lib.hid hgs
    clear hgs hc2 hE8 hK
    by_cases h8 : xs.getD 8 0 = 0
    case neg =>
      have hnc : ¬ Pl.tailC xs m := fun h => h8 h.1
      have hF : Pl.outErr s (8 * (m : Int)) = 2 := by rw [HOE.out, if_neg hnc]
      have hG : Pl.outVal s (8 * (m : Int)) = 0 := by rw [HOV.out, if_neg hnc]
      have HF := Lib.hid hF
      have HG := Lib.hid hG
      have h8' : (xs.getD 8 0 != 0) = true := by simpa using h8
      generalize xs.getD 8 0 = x8 at *
      clear hF hG h8 hnc
      go_wp2_with fail
      refine ⟨by simp, .inl ⟨_, _, rfl, run_takeDeferred HK.out, ?_⟩⟩
      exact ⟨_, results_tmp2 rfl _ _ _, by rw [HF.out, HG.out]; rfl, HE8.out⟩
    case pos =>
      rw [h8] at c8
      have H8 := Lib.hid h8
      clear h8
      go_wp2_with fail
      go_loopw [12] (fun i wr => ∃ k : Nat, i = .int .i64 k ∧ (sp < k ∧ k ≤ 16) ∧ W = wr ∧ ∀ j, sp < j → j < k → xs.getD j 0 = 0) (fun i _ => 16 - (intOf i).toNat)
      case atStart => exact ⟨sp + 1, by go_num, ⟨by omega, by omega⟩, rfl, fun j h1 h2 => by omega⟩
      case round =>
        obtain ⟨k, rfl, ⟨hk0, hk1⟩, rfl, hz⟩ := hrel
        have HZ := Lib.hid hz
        clear hz
        by_cases hlt : k < 16
        · have c0 := HC.out k hlt
          have hk16 : (k : Int) < 16 := by omega
          by_cases hx : xs.getD k 0 = 0
          · have HX := Lib.hid hx
            rw [hx] at c0
            clear hx
            go_wp2_with fail
            go_roundw
            case rel =>
              refine ⟨k + 1, by go_num, ⟨by omega, by omega⟩, trivial, fun j h1 h2 => ?_⟩
              by_cases hjk : j = k
              · subst hjk; exact HX.out
              · exact HZ.out j h1 (by omega)
            case measure => simp [intOf]; omega
          · have hnc : ¬ Pl.tailC xs m := fun h => hx (h.2 k (by rw [HGS.out]; omega) hlt)
            have hF : Pl.outErr s (8 * (m : Int)) = 2 := by rw [HOE.out, if_neg hnc]
            have hG : Pl.outVal s (8 * (m : Int)) = 0 := by rw [HOV.out, if_neg hnc]
            have HF := Lib.hid hF
            have HG := Lib.hid hG
            have hx' : (xs.getD k 0 != 0) = true := by simpa using hx
            generalize xs.getD k 0 = x0 at *
            clear hF hG hx hnc
            go_wp2_with fail
            refine ⟨by simp, .inl ⟨_, _, rfl, run_takeDeferred HK.out, ?_⟩⟩
            exact ⟨_, results_tmp2 rfl _ _ _, by rw [HF.out, HG.out]; rfl, HE8.out⟩
        · obtain rfl : k = 16 := by omega
          have hcl : Pl.tailC xs m := ⟨H8.out, fun i h1 h2 => HZ.out i (by rw [HGS.out] at h1; omega) h2⟩
          have hF : Pl.outErr s (8 * (m : Int)) = 0 := by rw [HOE.out, if_pos hcl]
          have hG : Pl.outVal s (8 * (m : Int)) = Pl.val xs (Pl.spots m) := by rw [HOV.out, if_pos hcl]
          have HF := Lib.hid hF
          have HG := Lib.hid hG
          clear hF hG hcl
          go_wp2_with fail
          refine ⟨by simp, .inl ⟨_, _, rfl, run_takeDeferred HK.out, ?_⟩⟩
          exact ⟨_, results_tmp2 rfl _ _ _, by rw [HF.out, HG.out]; rfl, HE8.out⟩
  case stop =>
    rintro D c pre W _ _ h _
    exact h.elim
end Go.Proofs.YtbjogkpepfgegaaGreatDoor
