/- The law SumSwaps: where two bytes at an even place are written anew, the check that is swapped is that of what comes. Conditions: none. -/
import Derived.Test.YtlakolkcmbfljaaFrame
import Derived.Test.YtlakolkcmbfljaaSum
import Derived.Test.YtlakolkcmbfljaaOwn
namespace Go.Proofs.Ytlakolkcmbfljaa.sumSwaps
open Go.ChangeShapes Go.WideShapes Go.ChangeAt Go.RowKit

set_option maxHeartbeats 1000000 in
theorem walk (a0 : Option Addr) (n0 c0 : Nat) (x0 : List Int) (x1 x2 : Int) (w : World) (w0 : IsBytes w a0 n0 c0 x0) (w1 : IsInt x1) (w2 : IsInt x2) :
    Calls Try.prog 4 #[.slice a0 n0 c0, .int .i64 x1, .int .i64 x2] w fun e w' => e = .returned (.bool true) ∧ Below w.heap.size w w' := by
  obtain ⟨i0, b0, hc0, hm0⟩ := w0
  obtain ⟨w10, w11⟩ := w1
  obtain ⟨w20, w21⟩ := w2
  unfold maxLen at hm0
  have hfact : Pl.fold (Pl.raw 0 [255, 255, 0, 2]) = 2 := by decide
  have HF := Lib.hid hfact
  clear hfact
  by_cases g0 : x1 < 0 ∨ (n0 : Int) / 2 ≤ x1 ∨ (300 : Int) < (n0 : Int) ∨ x2 < 0 ∨ 65535 < x2
  · go_enter Try.func4, Try.ntmps4
    go_wp2_with fail
    refine (of_ok _ _ _ [255, 255, 0, 2] _ (ints_new _ _ _ _ _ _ rfl) (Pl.IsB.of (by decide)) (by simp)).mono ?_
    rintro e w' ⟨rfl, rfl⟩
    rw [HF.out]
    have hor : decide (x1 < 0) = true ∨ decide (x1 < 0) = false := by cases decide (x1 < 0) <;> simp
    have G := Lib.hid g0
    clear g0 hor
    by_cases q0 : x1 < 0
    · go_wp2
      go_ret
      exact ⟨rfl, by go_grown⟩
    by_cases q1 : (n0 : Int) / 2 ≤ x1
    · go_wp2
      go_ret
      exact ⟨rfl, by go_grown⟩
    by_cases q2 : (300 : Int) < (n0 : Int)
    · go_wp2
      go_ret
      exact ⟨rfl, by go_grown⟩
    by_cases q3 : x2 < 0
    · go_wp2
      go_ret
      exact ⟨rfl, by go_grown⟩
    have q4 : 65535 < x2 := by have := G.out; omega
    go_wp2
    go_ret
    exact ⟨rfl, by go_grown⟩
  · have p0 : 0 ≤ x1 := by omega
    have p1 : x1 < (n0 : Int) / 2 := by omega
    have p2 : n0 ≤ 300 := by omega
    have p3 : 0 ≤ x2 := by omega
    have p4 : x2 ≤ 65535 := by omega
    clear g0
    obtain ⟨k, rfl⟩ := Int.eq_ofNat_of_zero_le p0
    have p5 : 2 * k + 1 < n0 := by omega
    obtain ⟨pb, po, rfl, hpb, hcell⟩ := i0.at (by omega)
    have hlo := hcell (2 * k) (by omega)
    have hhi := hcell (2 * k + 1) (by omega)
    have hlb := b0.getD (2 * k)
    have hhb := b0.getD (2 * k + 1)
    have hl0 := i0.len
    generalize hx : x0.getD (2 * k) 0 = X at *
    generalize hy : x0.getD (2 * k + 1) 0 = Y at *
    have HX := Lib.hid hx
    have HY := Lib.hid hy
    have HL := Lib.hid hl0
    have HC := Lib.hid hcell
    clear hx hy hcell hl0
    obtain ⟨lb0, lb1⟩ := hlb
    obtain ⟨hb0, hb1⟩ := hhb
    have e0 : decide ((k : Int) < 0) = false := decide_eq_false (by omega)
    have e1 : decide ((n0 : Int) / 2 ≤ (k : Int)) = false := decide_eq_false (by omega)
    have e2 : decide ((300 : Int) < (n0 : Int)) = false := decide_eq_false (by omega)
    have e3 : decide (x2 < 0) = false := decide_eq_false (by omega)
    have e4 : decide (65535 < x2) = false := decide_eq_false (by omega)
    have hr0 := (Pl.raw_bd b0 0).1
    have hraw : Pl.raw 0 ((x0.set (2 * k) (x2 / 256)).set (2 * k + 1) (x2 % 256)) = Pl.raw 0 x0 - (256 * X + Y) + x2 := by
      rw [Pl.raw_set _ _ _ _ (by rw [List.length_set, HL.out]; exact p5), Pl.raw_set _ _ _ _ (by rw [HL.out]; omega), if_pos (by omega), if_neg (by omega)]
      have hne : (x0.set (2 * k) (x2 / 256)).getD (2 * k + 1) 0 = x0.getD (2 * k + 1) 0 := by
        simp [List.getD, List.getElem?_set_ne]
      rw [hne, HX.out, HY.out]
      omega
    have hge : 256 * X + Y ≤ Pl.raw 0 x0 := by
      have h1 := (Pl.raw_bd ((b0.set (2 * k) (x := 0) (by omega) (by omega)).set (2 * k + 1) (x := 0) (by omega) (by omega)) 0).1
      have h2 : Pl.raw 0 ((x0.set (2 * k) 0).set (2 * k + 1) 0) = Pl.raw 0 x0 - (256 * X + Y) := by
        rw [Pl.raw_set _ _ _ _ (by rw [List.length_set, HL.out]; exact p5), Pl.raw_set _ _ _ _ (by rw [HL.out]; omega), if_pos (by omega), if_neg (by omega)]
        have hne : (x0.set (2 * k) 0).getD (2 * k + 1) 0 = x0.getD (2 * k + 1) 0 := by
          simp [List.getD, List.getElem?_set_ne]
        rw [hne, HX.out, HY.out]
        omega
      omega
    have hsw := Pl.swaps (Pl.fold (Pl.raw 0 x0)) (256 * X + Y) x2 (Pl.fold (Pl.raw 0 ((x0.set (2 * k) (x2 / 256)).set (2 * k + 1) (x2 % 256)))) ⟨Pl.raw 0 x0, rfl, hr0, hge, by rw [hraw]⟩ (by omega) (by omega) p3 p4
    have SW := Lib.hid hsw
    have g0 := Pl.fold_lo (Pl.raw 0 ((x0.set (2 * k) (x2 / 256)).set (2 * k + 1) (x2 % 256)))
    have g1 := Pl.fold_hi (Pl.raw 0 ((x0.set (2 * k) (x2 / 256)).set (2 * k + 1) (x2 % 256)))
    clear hsw hraw hge hr0
    have f0 := Pl.fold_lo (Pl.raw 0 x0)
    have f1 := Pl.fold_hi (Pl.raw 0 x0)
    go_enter Try.func4, Try.ntmps4
    go_wp2_with fail
    refine (of_ok _ _ _ [255, 255, 0, 2] _ (ints_new _ _ _ _ _ _ rfl) (Pl.IsB.of (by decide)) (by simp)).mono ?_
    rintro e w' ⟨rfl, rfl⟩
    rw [HF.out]
    go_wp2_with fail
    generalize hW1 : w.alloc _ = W1
    have B1 : Below w.heap.size w W1 := by rw [← hW1]; go_grown
    clear hW1
    with_reducible refine (of_ok _ _ _ x0 _ (i0.below B1) b0 (by omega)).mono ?_
    rintro e w' ⟨rfl, rfl⟩
    go_wp2_with fail
    with_reducible refine (not_ok _ _ ⟨Pl.fold_lo _, Pl.fold_hi _⟩).mono ?_
    rintro e W2 ⟨rfl, bb2⟩
    have B2 := B1.trans (bb2.mono B1.size)
    go_wp2_with (at_builtin; refine Halt.out ?_)
    refine Halt.mk ?_
    refine app rfl _ _ rfl W2.heap.size _ [] rfl (Own.nil _ _) (some ⟨pb, po, none⟩) n0 c0 x0 rfl (i0.below B2) (by simp; omega) (Nat.le_refl _) ?_
    intro cv W3 oc3 bb3
    have B3 := B2.trans (bb3.mono B2.size)
    simp only [List.nil_append] at oc3
    obtain ⟨g, n, cap, rfl, hgl, hgc, hg0, hg1, hgcell, hgf⟩ := oc3.shape (by rw [HL.out]; omega)
    obtain rfl : n0 = n := by rw [← hgl]; exact HL.out.symm
    clear hgl
    have hlo3 : W3.cell? ⟨pb, po + 2 * k, none⟩ = some (.int .u8 X) := by rw [B3.cell (World.block_lt_of_cell? w _ hlo)]; exact hlo
    have hhi3 : W3.cell? ⟨pb, po + (2 * k + 1), none⟩ = some (.int .u8 Y) := by rw [B3.cell (World.block_lt_of_cell? w _ hhi)]; exact hhi
    have hcA := hgcell (2 * k) (by omega)
    have hcB := hgcell (2 * k + 1) (by omega)
    rw [HX.out] at hcA
    rw [HY.out] at hcB
    have hfA := hgf (2 * k)
    have hfB := hgf (2 * k + 1)
    clear hgcell hgf
    go_wp2_with fail
    go_quiet (fail)
    go_wp2_with fail
    have oc4 := ((oc3.drewN nq).store (2 * k) (x2 / 256)).store (2 * k + 1) (x2 % 256)
    have bb4 : Below W2.heap.size W3 (((W3.drewN nq).setCell ⟨g, 2 * k, none⟩ (.int .u8 (x2 / 256))).setCell ⟨g, 2 * k + 1, none⟩ (.int .u8 (x2 % 256))) :=
      ((below_drewN (Below.refl _ _) nq).setCell (p := ⟨g, 2 * k, none⟩) hg0 _).setCell (p := ⟨g, 2 * k + 1, none⟩) hg0 _
    have B4 := B3.trans (bb4.mono B2.size)
    generalize hW4 : ((W3.drewN nq).setCell ⟨g, 2 * k, none⟩ (.int .u8 (x2 / 256))).setCell ⟨g, 2 * k + 1, none⟩ (.int .u8 (x2 % 256)) = W4 at *
    clear hW4
    obtain ⟨pc, nc, cc, hpc, hncc, ic4⟩ := oc4.read
    cases hpc
    with_reducible refine (of_ok _ _ _ _ _ ic4 ((b0.set _ (by omega) (by omega)).set _ (by omega) (by omega)) (by omega)).mono ?_
    rintro e w' ⟨rfl, rfl⟩
    go_wp2_with fail
    with_reducible refine (not_ok _ _ ⟨Pl.fold_lo _, Pl.fold_hi _⟩).mono ?_
    rintro e W5 ⟨rfl, bb5⟩
    have B5 := B4.trans (bb5.mono B4.size)
    go_wp2_with fail
    with_reducible refine (swap_ok _ _ _ _ ⟨by omega, by omega⟩ ⟨by omega, by omega⟩ ⟨by omega, by omega⟩).mono ?_
    rintro e W6 ⟨rfl, bb6⟩
    have B6 := B5.trans (bb6.mono B5.size)
    unfold swapv
    generalize Pl.fold (Pl.raw 0 ((x0.set (2 * k) (x2 / 256)).set (2 * k + 1) (x2 % 256))) = now at *
    rcases SW.out with hz | hz
    · subst hz
      go_wp2
      go_ret
      exact ⟨rfl, B6⟩
    · rw [hz]
      have e9 : (65535 - now == 65535 - now) = true := by simp
      by_cases hn : now = 0
      · subst hn
        go_wp2
        go_ret
        exact ⟨rfl, B6⟩
      · have e8 : (now == 0) = false := by simpa using hn
        go_wp2
        go_ret
        exact ⟨rfl, B6⟩

set_option maxRecDepth 100000 in
theorem lifted (os : Os) (started : os.Started) (H : Type) (enc : TypeId × Value → H) :
    ReturnsInHanded {} Try.checked os 4 .any (Rows.sumSwapsSpec.pre6 enc Try.prog Try.f4 Rows.sumSwapsRow.domain false) (Rows.sumSwapsSpec.post enc Try.prog Try.f4 false true false false) := by
  refine returnsInHanded_of_change (C := Try.checked) own started (by kernel_rfl) Try.func4
    (ChangeSpec.witness6 (enc := enc) (C := Try.checked) false ⟨#[], #[.slice none 0 0, .int .i64 0, .int .i64 0], []⟩ 8 (by kernel_rfl) (by kernel_rfl) (by kernel_rfl) (by kernel_rfl)) ?_
  intro W base args ds gs before hval0 hW hcnd _
  have hval : ∀ (j : Nat) t v, Try.f4.params[j]? = some t → args[j]? = some v → Value.okWide Try.prog W .any base t v := hval0
  have hW' := hW
  obtain ⟨p, q, hA0, hV, rfl, hfz, hnd⟩ := hW
  have hA : DataW.TrodAll enc Try.prog W 0 (fun _ => true) true Try.f4.params.toList args.toList ds p := hA0
  rw [Try.params4] at hA hval
  obtain ⟨v0, vs0, d0, ds0, p0, q0, hargs, rfl, rfl, h0, r0⟩ := trodAll_cons hA
  obtain ⟨v1, vs1, d1, ds1, p1, q1, rfl, rfl, rfl, h1, r1⟩ := trodAll_cons r0
  obtain ⟨v2, vs2, d2, ds2, p2, q2, rfl, rfl, rfl, h2, r2⟩ := trodAll_cons r1
  obtain ⟨rfl, rfl, rfl⟩ := trodAll_nil r2
  obtain rfl : args = #[v0, v1, v2] := by cases args; simp_all
  obtain ⟨rfl, rfl⟩ := trodVars_none hV
  have lt0 : ∀ x ∈ p0, x.block < W.heap.size := by obtain ⟨m, hm⟩ := h0; exact DataW.trod_lt m _ _ _ hm
  have k0 := h0
  obtain ⟨a0, n0, c0, rfl⟩ := okWide_slice Try.underlying25 (hval 0 25 v0 rfl rfl)
  obtain ⟨x0, w0⟩ := open_bytes h0
  have lt1 : ∀ x ∈ p1, x.block < W.heap.size := by obtain ⟨m, hm⟩ := h1; exact DataW.trod_lt m _ _ _ hm
  have k1 := h1
  obtain ⟨x1, rfl, _, _, w1'⟩ := open_int Try.underlying3 (hval 1 3 v1 rfl rfl) h1
  have w1 : IsInt x1 := wf_i64 w1'
  have lt2 : ∀ x ∈ p2, x.block < W.heap.size := by obtain ⟨m, hm⟩ := h2; exact DataW.trod_lt m _ _ _ hm
  have k2 := h2
  obtain ⟨x2, rfl, _, _, w2'⟩ := open_int Try.underlying3 (hval 2 3 v2 rfl rfl) h2
  have w2 : IsInt x2 := wf_i64 w2'
  clear hA0 hval0
  refine (walk a0 n0 c0 x0 x1 x2 W w0 w1 w2).mono fun e W' ⟨he, bel⟩ => ?_
  subst he
  exact ⟨_, rfl, _, _, _, [], _, [], hW', trodAll_mk1 (shut_bool Try.underlying4 _), (trodAll_cons_mk (Below.trod laidOut (by kernel_rfl) (of_decide_eq_true (by kernel_rfl)) k0 bel lt0) (trodAll_cons_mk (Below.trod laidOut (by kernel_rfl) (of_decide_eq_true (by kernel_rfl)) k1 bel lt1) (trodAll_cons_mk (Below.trod laidOut (by kernel_rfl) (of_decide_eq_true (by kernel_rfl)) k2 bel lt2) trodAll_mk0))), rfl, bel.frame _, fun h => by cases h⟩

theorem over : Rows.sumSwapsRow.holds Try.pinned (OpenSpec.ofChange Rows.sumSwapsSpec) :=
  OpenClaim.holds_of_wide 4 Try.f4 rfl rfl rfl rfl rfl rfl rfl ⟨rfl, rfl, rfl, rfl, rfl⟩ rfl rfl rfl rfl rfl (by kernel_rfl) Try.func4 (by kernel_rfl)
    (of_decide_eq_true (by kernel_rfl)) (by unfold Func.isWrapper; first | (rw [if_pos (by decide +kernel)]; kernel_rfl) | (rw [if_neg (by decide +kernel)]; exact ⟨rfl, rfl⟩))
    (fun os started H enc _ => lifted os started H enc)

/-- THE STATEMENT. -/
theorem proved : Rows.SumSwapsSaid := over
#print axioms proved
end Go.Proofs.Ytlakolkcmbfljaa.sumSwaps
