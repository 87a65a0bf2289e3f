/- package embed: Into. Conditions: as each theorem states them. -/
import Derived.Test.YtbjogkpepfgegaaDoorK03
import Derived.Test.YtbjogkpepfgegaaDoorK02
import Derived.Test.YtbjogkpepfgegaaDoorK01
namespace Go.Proofs.YtbjogkpepfgegaaDoor
open Go.RowKit Go.Shelf
attribute [local go_sem] Oper.semAt_some
section
variable {W W' : World} {row : Option Nat}
theorem kept_row {g : Nat} {cs : Array Value} {t : TypeId} (h : Blk W g t cs) (hg : W.grownBy W' row) (hr : ∀ r, row = some r → ∃ o : Obj, W.heap[r]? = some o ∧ o.isCells = false) : Blk W' g t cs := by
  refine (hg.block g h.lt (fun e => ?_)).trans h
  obtain ⟨o, ho, hc⟩ := hr g (by first | exact e | exact e.symm)
  rw [show W.heap[g]? = _ from h] at ho
  cases ho
  cases hc
theorem kept_ints {k : IntKind} {a : Option Addr} {n : Nat} {xs : List Int} (h : Ints k W a n xs) (hg : W.grownBy W' row) (hr : ∀ r, row = some r → ∃ o : Obj, W.heap[r]? = some o ∧ o.isCells = false) : Ints k W' a n xs := by
  refine ⟨h.1, ?_⟩
  rcases h.2 with h0 | ⟨b, off, rfl, hc⟩
  · exact .inl h0
  · exact .inr ⟨b, off, rfl, fun i hi => cell_kept (hc i hi) hg hr⟩
theorem kept_own {B : Nat} {v : Value} {xs : List Int} (h : Own W B v xs) (hg : W.grownBy W' row) (hr : ∀ r, row = some r → ∃ o : Obj, W.heap[r]? = some o ∧ o.isCells = false) : Own W' B v xs := by
  refine ⟨h.1, ?_⟩
  rcases h.2 with hn | ⟨g, cap, cur, rfl, hb, hh, rest⟩
  · exact .inl hn
  · exact .inr ⟨g, cap, cur, rfl, hb, kept_row hh hg hr, rest⟩
end
namespace Pl
/-- Bytes with those of a four at their places. -/
def put (b f : List Int) (pre : List (Fin 4 × Fin 16)) : List Int := pre.foldl (fun b p => b.set p.2.val (f.getD p.1.val 0)) b
theorem put_snoc (b f : List Int) (pre : List (Fin 4 × Fin 16)) (p : Fin 4 × Fin 16) : put b f (pre ++ [p]) = (put b f pre).set p.2.val (f.getD p.1.val 0) := by simp [put]
theorem put_length (b f : List Int) (pre : List (Fin 4 × Fin 16)) : (put b f pre).length = b.length := by
  induction pre generalizing b with
  | nil => rfl
  | cons p r ih => show (put (b.set p.2.val (f.getD p.1.val 0)) f r).length = _; rw [ih, List.length_set]
theorem put_isB {b f : List Int} (hb : IsB b) (hf : IsB f) (pre : List (Fin 4 × Fin 16)) : IsB (put b f pre) := by
  induction pre generalizing b with
  | nil => exact hb
  | cons p r ih =>
    refine ih (b := b.set p.2.val (f.getD p.1.val 0)) fun x hx => ?_
    rcases List.mem_or_eq_of_mem_set hx with h | h
    · exact hb x h
    · rw [h]; exact hf.getD _
end Pl

set_option maxRecDepth 100000 in
set_option maxHeartbeats 4000000 in
theorem into_ok (s : Six) (m : Nat) (four : Int) (w : World) (hs : okS s = true) (hm : 4 ≤ m ∧ m ≤ 12) (hp : Pl.pfxErr s (8 * (m : Int)) = 0) (hf : 0 ≤ four ∧ four < 4294967296) :
    Calls Tryd.prog 7 #[s.v, .int .i64 (8 * (m : Int)), .int .i64 four] w fun e w' => e = .returned (.tuple #[(sixAt (Pl.put (Pl.two s.l) (Pl.four four) (Pl.spots m))).v, .nilIface]) ∧ Ext w w' := by
  have K0 := (Blk.new w 23 s.cells).alloc (.cells zc6 23)
  have KR := Blk.at (n := w.heap.size + 1) (w.alloc (.cells s.cells 23)) 23 zc6 (by simp)
  have E0 : Ext w ((w.alloc (.cells s.cells 23)).alloc (.cells zc6 23)) := ((Ext.refl w).alloc _).alloc _
  have l0 := K0.six0
  have HC := Lib.hid (fun W => (show Calls Tryd.prog 22 #[s.v, .int .i64 (8 * (m : Int))] W (fun e w' => e = .returned .nilIface ∧ Ext W w') from by
    have := echeck_any s (8 * (m : Int)) W
    rw [hp, erv_zero] at this
    exact this))
  have hIB : Pl.IsB (Pl.put (Pl.two s.l) (Pl.four four) (Pl.spots m)) := Pl.put_isB (Six.isB hs) (Pl.four_isB hf.1 hf.2) _
  obtain ⟨f0, f1⟩ := hf
  refine callsIn_wide.1 (callsIn_of_wp_marks (F := Fence.wide) (n := 9) Tryd.func7 rfl trivial (wpIn_wide.2 ?_))
  simp only [Tryd.ntmps7, List.size_toArray, List.length_cons, List.length_nil, Nat.reduceAdd, Nat.reduceSub, Array.replicate_succ, Array.replicate_zero, List.push_toArray, List.append_toArray, List.nil_append, List.cons_append]
  go_wp2_with ((apply load_by rfl _ _ rfl _ rfl); (focus (with_reducible assumption)))
  refine (HC.out _).mono ?_
  rintro e W1 ⟨rfl, q1⟩
  have K1 := K0.ext q1
  have R1 := KR.ext q1
  have E1 := E0.trans q1
  have l1 := K1.six0
  clear l0 K0 KR E0 q1
  go_wp2_with fail
  refine (is_yes four _ f0 f1).mono ?_
  rintro e w' ⟨rfl, rfl⟩
  go_wp2_with ((apply load_by rfl _ _ rfl _ rfl); (focus (with_reducible assumption)))
  refine (raw6_any s _ hs).mono ?_
  rintro e W2 ⟨v2, rfl, o2, q2⟩
  obtain ⟨g2, n2, c2, rfl, hn2, hc2, hg2, hg2', hcell2, hfz2⟩ := o2.shape (by rw [Pl.two_length]; show 0 < 2 * 8; decide)
  have R2 := R1.ext q2
  have E2 := E1.trans q2
  have R1' := R1.lt
  clear l1 K1 R1
  go_wp2_with fail
  refine (raw4_any four _ f0 f1).mono ?_
  rintro e W3 ⟨v3, rfl, o3, q3⟩
  obtain ⟨a3, n3, c3, rfl, _, r3⟩ := o3.read
  obtain rfl : 4 = n3 := r3.len
  obtain ⟨b3, off3, rfl, hb3, _⟩ := r3.at (by decide)
  have R3 := R2.ext q3
  have E3 := E2.trans q3
  have hl16 : (Pl.two s.l).length = 16 := by rw [Pl.two_length]; rfl
  obtain rfl : 16 = n2 := hl16.symm.trans hn2
  have o3b := o2.ext q3
  have ob : Own W3 w.heap.size (.slice (some ⟨g2, 0, none⟩) 16 c2) (Pl.two s.l) := o3b.mono E1.size
  have hb2 : w.heap.size + 2 ≤ g2 := by have := (show w.heap.size + 1 < W1.heap.size from R1'); omega
  have hg3 : g2 < W3.heap.size := by have := q3.size; omega
  have hb3g : g2 ≠ b3 := by have := (o3.lt b3 rfl).1; omega
  clear o2 o3b hcell2 hfz2 q2 q3 R2 E2 o3
  have K9 := (Blk.new W3 27 #[.slice (some ⟨g2, 0, none⟩) 16 c2]).alloc (.cells #[.slice (some ⟨b3, off3, none⟩) 4 c3] 27)
  have K10 := Blk.at (n := W3.heap.size + 1) (W3.alloc (.cells #[.slice (some ⟨g2, 0, none⟩) 16 c2] 27)) 27 #[.slice (some ⟨b3, off3, none⟩) 4 c3] (by simp)
  have X4 : Ext W3 ((W3.alloc (.cells #[.slice (some ⟨g2, 0, none⟩) 16 c2] 27)).alloc (.cells #[.slice (some ⟨b3, off3, none⟩) 4 c3] 27)) := ((Ext.refl W3).alloc _).alloc _
  have hr3 := R3.lt
  go_wp2_with fail
  refine at_world (fun W => Ext W3 W ∧ Blk W W3.heap.size 27 #[.slice (some ⟨g2, 0, none⟩) 16 c2] ∧ Blk W (W3.heap.size + 1) 27 #[.slice (some ⟨b3, off3, none⟩) 4 c3]) ⟨X4, K9, K10⟩ ?_
  clear X4 K9 K10
  rintro W4 ⟨X4, K9, K10⟩
  have K10' := K10
  have Ks := spots_any (8 * (m : Int)) W4
  refine Ks.mono ?_
  clear Ks
  rintro e W5 ⟨rfl, KB, q5⟩
  have X5 := X4.trans q5
  have E5 := E3.trans X5
  have K9 := K9.ext q5
  have K10 := K10.ext q5
  have KR5 := R3.ext X5
  have ob5 := ob.ext X5
  have i5 := r3.ext X5
  have hsz : W3.heap.size + 2 ≤ W4.heap.size := (by have h1 := X4.size; have h2 := K10'.lt; omega)
  have h45 := KB.lt
  clear X4 q5 R3 ob r3 E3 K10'
  go_wp2_with fail
  refine wpIn_wide.1 (wpIn_rangeFunc_ownF (F := Fence.wide) (n := 9) rfl (by decide) (gf := 54) (lb := #[.pointer (some ⟨W4.heap.size, 0, none⟩)]) rfl trivial (enters_of Tryd.func54 (by kernel_rfl) rfl)
    (spots_stops Fence.wide 8 trivial rfl (by decide) w.heap.size W4.heap.size m hm W5 KB) belowK_t (belowK_b E5.size) (Below.refl _ _) (fun _ => rfl)
    (fun pre W => (Blk W W3.heap.size 27 #[.slice (some ⟨g2, 0, none⟩) 16 c2] ∧ Blk W (W3.heap.size + 1) 27 #[.slice (some ⟨b3, off3, none⟩) 4 c3] ∧ Own W w.heap.size (.slice (some ⟨g2, 0, none⟩) 16 c2) (Pl.put (Pl.two s.l) (Pl.four four) pre) ∧ Ints .u8 W (some ⟨b3, off3, none⟩) 4 (Pl.four four) ∧ Blk W (w.heap.size + 1) 23 zc6) ∧ Ext w W)
    (fun _ _ _ => False)
    (OwnFrom.and (_root_.Go.Own.from (fun s A B row hs hg hr => ⟨kept_row hs.1 hg hr, kept_row hs.2.1 hg hr, kept_own hs.2.2.1 hg hr, kept_ints hs.2.2.2.1 hg hr, kept_row hs.2.2.2.2 hg hr⟩) _) (ownFrom_below (Nat.le_refl _) E5.size))
    (fun _ _ _ _ _ hs _ _ => hs)
    ⟨⟨K9, K10, ob5, i5, KR5⟩, E5⟩
    (fun x => { tmps := #[s.v, .int .i64 (8 * (m : Int)), .int .i64 four, .pointer (some ⟨w.heap.size, 0, none⟩), undef, undef, .pointer (some ⟨w.heap.size + 1, 0, none⟩), .nilIface, .nilIface, .pointer (some ⟨W3.heap.size, 0, none⟩), .pointer (some ⟨W3.heap.size + 1, 0, none⟩),
      .int .i64 ((x.1.val : Nat) : Int), .int .i64 ((x.2.val : Nat) : Int), .agg s.cells, .int .i64 (8 * (m : Int)), .nilIface, .nilIface, .bool false, undef, undef, .int .i64 four, .bool true, .bool false, undef, undef, .agg s.cells, .slice (some ⟨g2, 0, none⟩) 16 c2, .int .i64 four, .slice (some ⟨b3, off3, none⟩) 4 c3,
      .int .i64 (8 * (m : Int)), .func (.func 54) #[] #[.pointer (some ⟨W4.heap.size, 0, none⟩)], .int .i64 ((x.1.val : Nat) : Int), .int .i64 ((x.2.val : Nat) : Int), undef, undef, undef, undef, undef, undef, undef, undef, undef], defers := [] }) ?assign ?body ?done ?stop)
  case assign =>
    intro l x W K hK
    gi_wp2
    exact hK
  case body =>
    rintro l pre x W ⟨⟨k9, k10, o, i, kr⟩, hB⟩ _
    have e9 := k9.cells 0
    have e10 := k10.cells 0
    obtain ⟨b3', off3', hbo, hbl3, hc3⟩ := i.at (by decide)
    cases hbo
    have ci := hc3 x.1.val x.1.isLt
    obtain ⟨g2', n2', c2', hv, hn2', _, _, _, hcell, hfz⟩ := o.shape (by rw [Pl.put_length]; omega)
    cases hv
    have cb := hcell x.2.val x.2.isLt
    have fb := hfz x.2.val
    have hx1 := x.1.isLt
    have hx2 := x.2.isLt
    have l1 : ((x.1.val : Nat) : Int) < 4 := by omega
    have l2 : ((x.2.val : Nat) : Int) < 16 := by omega
    have hmx : Tryd.prog.follows .mixedOrders = true := by kernel_rfl
    have fin : KeepsOthers W (W.setCell ⟨g2, x.2.val, none⟩ (.int .u8 ((Pl.four four)[x.1.val]?.getD 0))).drew ∧ Below w.heap.size W (W.setCell ⟨g2, x.2.val, none⟩ (.int .u8 ((Pl.four four)[x.1.val]?.getD 0))).drew ∧
        (Blk (W.setCell ⟨g2, x.2.val, none⟩ (.int .u8 ((Pl.four four)[x.1.val]?.getD 0))).drew W3.heap.size 27 #[.slice (some ⟨g2, 0, none⟩) 16 c2] ∧ Blk (W.setCell ⟨g2, x.2.val, none⟩ (.int .u8 ((Pl.four four)[x.1.val]?.getD 0))).drew (W3.heap.size + 1) 27 #[.slice (some ⟨b3, off3, none⟩) 4 c3] ∧
          Own (W.setCell ⟨g2, x.2.val, none⟩ (.int .u8 ((Pl.four four)[x.1.val]?.getD 0))).drew w.heap.size (.slice (some ⟨g2, 0, none⟩) 16 c2) (Pl.put (Pl.two s.l) (Pl.four four) (pre ++ [x])) ∧ Ints .u8 (W.setCell ⟨g2, x.2.val, none⟩ (.int .u8 ((Pl.four four)[x.1.val]?.getD 0))).drew (some ⟨b3, off3, none⟩) 4 (Pl.four four) ∧
          Blk (W.setCell ⟨g2, x.2.val, none⟩ (.int .u8 ((Pl.four four)[x.1.val]?.getD 0))).drew (w.heap.size + 1) 23 zc6) ∧ Ext w (W.setCell ⟨g2, x.2.val, none⟩ (.int .u8 ((Pl.four four)[x.1.val]?.getD 0))).drew := by
      refine ⟨(KeepsOthers.setCell _ _ _).trans (KeepsOthers.drew _), ((Below.refl _ W).setCell (p := ⟨g2, x.2.val, none⟩) (by show w.heap.size ≤ g2; omega) _).drew,
        ⟨(k9.far (p := ⟨g2, x.2.val, none⟩) (by show W3.heap.size ≠ g2; omega) _).drew, (k10.far (p := ⟨g2, x.2.val, none⟩) (by show W3.heap.size + 1 ≠ g2; omega) _).drew, ?_, ?_, (kr.far (p := ⟨g2, x.2.val, none⟩) (by show w.heap.size + 1 ≠ g2; omega) _).drew⟩,
        (Ext.set hB (p := ⟨g2, x.2.val, none⟩) (by show w.heap.size ≤ g2; omega) _).drew⟩
      · rw [Pl.put_snoc]
        exact (o.store _ _).drew
      · refine ⟨i.len, .inr ⟨b3, off3, rfl, fun j hj => ?_⟩⟩
        have := hc3 j hj
        exact (World.cell?_setCell_other _ _ _ _ (by first | (simp; done) | (simp; omega))).trans this
    have FIN := Lib.hid fin
    clear fin
    have q9 : W.drew.cell? ⟨W3.heap.size, 0, none⟩ = some (.slice (some ⟨g2, 0, none⟩) 16 c2) := e9
    have q10 : W.drew.cell? ⟨W3.heap.size + 1, 0, none⟩ = some (.slice (some ⟨b3, off3, none⟩) 4 c3) := e10
    have qi : W.drew.cell? ⟨b3, off3 + x.1.val, none⟩ = some (.int .u8 ((Pl.four four)[x.1.val]?.getD 0)) := by have := ci; rw [List.getD_eq_getElem?_getD] at this; exact this
    gi_wp2
    refine wpIn_region_round (S := fun w' => w'.cell? ⟨W3.heap.size, 0, none⟩ = some (.slice (some ⟨g2, 0, none⟩) 16 c2) ∧ w'.cell? ⟨W3.heap.size + 1, 0, none⟩ = some (.slice (some ⟨b3, off3, none⟩) 4 c3) ∧ w'.cell? ⟨b3, off3 + x.1.val, none⟩ = some (.int .u8 ((Pl.four four)[x.1.val]?.getD 0))) (by kernel_rfl) (by kernel_rfl) (fun ⟨_, _, h⟩ => h) ⟨q9, q10, qi⟩ (fun hS0 => ?_)
    (refine wpAnyH_take (i := 0) (v := ?_) rfl (by kernel_rfl) (by kernel_rfl) (by kernel_rfl) (fun _ _ _ h => h) (Or.inl ⟨by rfl, ?_⟩) (by assumption) ?_; rotate_left; focus (intro w hSw; (try dsimp only at hSw); go_simp; try with_reducible rfl); try simp only [Act.put, List.getElem_toArray, List.getElem_cons_succ, List.getElem_cons_zero, List.setIfInBounds_toArray, List.set_cons_zero, List.set_cons_succ])
    (refine wpAnyH_take (i := 1) (v := ?_) rfl (by kernel_rfl) (by kernel_rfl) (by kernel_rfl) (fun _ _ _ h => h) (Or.inl ⟨by rfl, ?_⟩) (by assumption) ?_; rotate_left; focus (intro w hSw; (try dsimp only at hSw); go_simp; try with_reducible rfl); try simp only [Act.put, List.getElem_toArray, List.getElem_cons_succ, List.getElem_cons_zero, List.setIfInBounds_toArray, List.set_cons_zero, List.set_cons_succ])
    (refine wpAnyH_take (i := 2) (v := ?_) rfl (by kernel_rfl) (by kernel_rfl) (by kernel_rfl) (fun _ _ _ h => h) (Or.inl ⟨by rfl, ?_⟩) (by assumption) ?_; rotate_left; focus (intro w hSw; (try dsimp only at hSw); go_simp; try with_reducible rfl); try simp only [Act.put, List.getElem_toArray, List.getElem_cons_succ, List.getElem_cons_zero, List.setIfInBounds_toArray, List.set_cons_zero, List.set_cons_succ])
    (refine wpAnyH_take (i := 3) (v := ?_) rfl (by kernel_rfl) (by kernel_rfl) (by kernel_rfl) (fun _ _ _ h => h) (Or.inl ⟨by rfl, ?_⟩) (by assumption) ?_; rotate_left; focus (intro w hSw; (try dsimp only at hSw); go_simp; try with_reducible rfl); try simp only [Act.put, List.getElem_toArray, List.getElem_cons_succ, List.getElem_cons_zero, List.setIfInBounds_toArray, List.set_cons_zero, List.set_cons_succ])
    (refine wpAnyH_take (i := 4) (v := ?_) rfl (by kernel_rfl) (by kernel_rfl) (by kernel_rfl) (fun _ _ _ h => h) (Or.inl ⟨by rfl, ?_⟩) (by assumption) ?_; rotate_left; focus (intro w hSw; (try dsimp only at hSw); go_simp; try with_reducible rfl); try simp only [Act.put, List.getElem_toArray, List.getElem_cons_succ, List.getElem_cons_zero, List.setIfInBounds_toArray, List.set_cons_zero, List.set_cons_succ])
    (refine wpAnyH_take (i := 5) (v := ?_) rfl (by kernel_rfl) (by kernel_rfl) (by kernel_rfl) (fun _ _ _ h => h) (Or.inl ⟨by rfl, ?_⟩) (by assumption) ?_; rotate_left; focus (intro w hSw; (try dsimp only at hSw); go_simp; try with_reducible rfl); try simp only [Act.put, List.getElem_toArray, List.getElem_cons_succ, List.getElem_cons_zero, List.setIfInBounds_toArray, List.set_cons_zero, List.set_cons_succ])
    (refine wpAnyH_take (i := 6) (v := ?_) rfl (by kernel_rfl) (by kernel_rfl) (by kernel_rfl) (fun _ _ _ h => h) (Or.inl ⟨by rfl, ?_⟩) (by assumption) ?_; rotate_left; focus (intro w hSw; (try dsimp only at hSw); go_simp; try with_reducible rfl); try simp only [Act.put, List.getElem_toArray, List.getElem_cons_succ, List.getElem_cons_zero, List.setIfInBounds_toArray, List.set_cons_zero, List.set_cons_succ])
    (refine wpAnyH_ready (rs := [7]) (by kernel_rfl) (by simp) ?_; refine AllReadyH.cons rfl (fun K hK => ?_) AllReadyH.nil)
    go_simp
    refine hK.out _ _ ⟨(cell_off (w := W) (by show ¬ W3.heap.size = g2; omega) _).trans q9, (cell_off (w := W) (by show ¬ W3.heap.size + 1 = g2; omega) _).trans q10, (cell_off (w := W) (by show ¬ b3 = g2; omega) _).trans qi⟩ ?_
    clear hK K
    intro hS
    (try simp only [Act.put, List.getElem_toArray, List.getElem_cons_succ, List.getElem_cons_zero, List.setIfInBounds_toArray, List.set_cons_zero, List.set_cons_succ])
    refine wpAnyH_done (by kernel_rfl) ?_ _
    exact FIN.out
  case done =>
    rintro D ys W hD rfl ⟨⟨k9, k10, o, i, kr⟩, hB⟩ hK
    have e9 := k9.cells 0
    obtain ⟨a', n', c', hv, hn', hi⟩ := o.read
    cases hv
    go_wp2_with fail
    refine (of6_any g2 0 16 c2 _ W hi hIB (by decide)).mono ?_
    rintro e W6 ⟨rfl, q6⟩
    have kr6 := kr.ext q6
    have E6 := hB.trans q6
    have hK6 := (Below.block q6 D (Array.getElem?_eq_some_iff.1 hK).1).trans hK
    have s6 : (Instr.storeAt 23 (.pointer (some ⟨w.heap.size + 1, 0, none⟩)) (sixAt (Pl.put (Pl.two s.l) (Pl.four four) (Pl.spots m))).v).run Tryd.prog W6 = .ok () (W6.setRow (w.heap.size + 1) (sixAt (Pl.put (Pl.two s.l) (Pl.four four) (Pl.spots m))).cells) := kr6.store rfl Tryd.size6 (by simp [Six.cells, Value.oneCell'])
    generalize hS : sixAt (Pl.put (Pl.two s.l) (Pl.four four) (Pl.spots m)) = S at *
    have HS := Lib.hid hS
    clear hS
    go_wp2_with ((apply store_by rfl _ _ _ rfl _ rfl); (focus (with_reducible assumption)); (focus rfl))
    have hD6 : w.heap.size + 1 < D := by have := KR5.lt; omega
    have hK7 : (W6.setRow (w.heap.size + 1) S.cells).heap[D]? = some (.deferred (some [])) := (setRow_other W6 (w.heap.size + 1) D S.cells (by omega)).trans hK6
    have kr7 := (kr6.row S.cells)
    have kr8 := kept_row kr7 (grownBy_putObj' _ D (.deferred none)) (fun r e => by cases e; exact ⟨_, hK7, rfl⟩)
    have E7 : Ext w (W6.setRow (w.heap.size + 1) S.cells) := E6.row (by omega) _
    have E8 : Ext w ((W6.setRow (w.heap.size + 1) S.cells).putObj D (.deferred none)) := E7.grown (grownBy_putObj' _ D (.deferred none)) E7.size (fun k e => by cases e; omega)
    refine ⟨by simp, .inl ⟨_, _, rfl, run_takeDeferred hK7, ?_⟩⟩
    exact ⟨_, results_cell2 Tryd.results7 _ _ (w.heap.size + 1) 23 S.cells _ rfl kr8 Tryd.underlying23 rfl Tryd.size6, by rw [HS.out]; rfl, E8⟩
  case stop =>
    rintro D c pre W _ _ h _
    exact h.elim
end Go.Proofs.YtbjogkpepfgegaaDoor
