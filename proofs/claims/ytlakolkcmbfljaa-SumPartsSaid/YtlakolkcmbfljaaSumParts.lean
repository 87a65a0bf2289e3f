/- The law SumParts: the sum of two even parts is that of both together, in either order; with its check behind it it is 65535. Conditions: none. -/
import Derived.Test.YtlakolkcmbfljaaFrame
import Derived.Test.YtlakolkcmbfljaaSum
import Derived.Test.YtlakolkcmbfljaaOwn
namespace Go.Proofs.Ytlakolkcmbfljaa.sumParts
open Go.ChangeShapes Go.WideShapes Go.ChangeAt Go.RowKit

set_option maxHeartbeats 1000000 in
theorem walk (a0 : Option Addr) (n0 c0 : Nat) (x0 : List Int) (a1 : Option Addr) (n1 c1 : Nat) (x1 : List Int) (w : World) (w0 : IsBytes w a0 n0 c0 x0) (w1 : IsBytes w a1 n1 c1 x1) :
    Calls Try.prog 5 #[.slice a0 n0 c0, .slice a1 n1 c1] w fun e w' => e = .returned (.bool true) ∧ Below w.heap.size w w' := by
  obtain ⟨i0, b0, hc0, hm0⟩ := w0
  obtain ⟨i1, b1, hc1, hm1⟩ := w1
  unfold maxLen at hm0 hm1
  have hfact : Pl.fold (Pl.raw 0 [1]) = 256 := by decide
  have HF := Lib.hid hfact
  clear hfact
  by_cases g0 : (n0 : Int) % 2 = 1
  · go_enter Try.func5, Try.ntmps5
    go_wp2_with fail
    refine (of_ok _ _ _ [1] _ (ints_new _ _ _ _ _ _ rfl) (fun x hx => by simp at hx; omega) (by simp)).mono ?_
    rintro e w' ⟨rfl, rfl⟩
    rw [HF.out]
    go_wp2
    go_ret
    exact ⟨rfl, by go_grown⟩
  by_cases g1 : (n1 : Int) % 2 = 1
  · go_enter Try.func5, Try.ntmps5
    go_wp2_with fail
    refine (of_ok _ _ _ [1] _ (ints_new _ _ _ _ _ _ rfl) (fun x hx => by simp at hx; omega) (by simp)).mono ?_
    rintro e w' ⟨rfl, rfl⟩
    rw [HF.out]
    go_wp2
    go_ret
    exact ⟨rfl, by go_grown⟩
  by_cases g2 : (500 : Int) < (n0 : Int)
  · go_enter Try.func5, Try.ntmps5
    go_wp2_with fail
    refine (of_ok _ _ _ [1] _ (ints_new _ _ _ _ _ _ rfl) (fun x hx => by simp at hx; omega) (by simp)).mono ?_
    rintro e w' ⟨rfl, rfl⟩
    rw [HF.out]
    go_wp2
    go_ret
    exact ⟨rfl, by go_grown⟩
  by_cases g3 : (500 : Int) < (n1 : Int)
  · go_enter Try.func5, Try.ntmps5
    go_wp2_with fail
    refine (of_ok _ _ _ [1] _ (ints_new _ _ _ _ _ _ rfl) (fun x hx => by simp at hx; omega) (by simp)).mono ?_
    rintro e w' ⟨rfl, rfl⟩
    rw [HF.out]
    go_wp2
    go_ret
    exact ⟨rfl, by go_grown⟩
  have l0 := i0.len
  have l1 := i1.len
  have q0 := (Pl.raw_bd b0 0).1
  have q1 := (Pl.raw_bd b1 0).1
  have HZ := Lib.hid (congrArg Pl.fold (Pl.raw_parts x0 x1 (by omega)))
  have HW := Lib.hid ((congrArg Pl.fold (Pl.raw_parts x1 x0 (by omega))).trans (congrArg Pl.fold (Int.add_comm _ _)))
  have HA := Lib.hid (Pl.fold_add q0 q1)
  have f0 := Pl.fold_lo (Pl.raw 0 x0 + Pl.raw 0 x1)
  have f1 := Pl.fold_hi (Pl.raw 0 x0 + Pl.raw 0 x1)
  have HC : Hid (Pl.fold (Pl.raw 0 (x0 ++ x1 ++ [(65535 - Pl.fold (Pl.raw 0 x0 + Pl.raw 0 x1)) / 256, (65535 - Pl.fold (Pl.raw 0 x0 + Pl.raw 0 x1)) % 256])) = 65535) := by
    show _ = _
    rw [Pl.raw_parts _ _ (by simp; omega), Pl.raw_parts x0 x1 (by omega)]
    have e : Pl.raw 0 [(65535 - Pl.fold (Pl.raw 0 x0 + Pl.raw 0 x1)) / 256, (65535 - Pl.fold (Pl.raw 0 x0 + Pl.raw 0 x1)) % 256] = 65535 - Pl.fold (Pl.raw 0 x0 + Pl.raw 0 x1) := by
      simp [Pl.raw]; omega
    rw [e]
    exact Pl.fold_check (by omega)
  have L0 := Lib.hid l0
  have L1 := Lib.hid l1
  clear l0 l1
  have e0 : ((n0 : Int) % 2 == 1) = false := beq_eq_false_iff_ne.2 g0
  have e1 : ((n1 : Int) % 2 == 1) = false := beq_eq_false_iff_ne.2 g1
  have e2 : decide ((500 : Int) < (n0 : Int)) = false := decide_eq_false g2
  have e3 : decide ((500 : Int) < (n1 : Int)) = false := decide_eq_false g3
  go_enter Try.func5, Try.ntmps5
  go_wp2_with fail
  refine (of_ok _ _ _ [1] _ (ints_new _ _ _ _ _ _ rfl) (fun x hx => by simp at hx; omega) (by simp)).mono ?_
  rintro e w' ⟨rfl, rfl⟩
  rw [HF.out]
  go_wp2_with (at_builtin; refine Halt.out ?_)
  refine Halt.mk ?_
  generalize hW1 : w.alloc _ = W1
  have B1 : Below w.heap.size w W1 := by rw [← hW1]; go_grown
  clear hW1
  refine app rfl _ _ rfl W1.heap.size _ [] rfl (Own.nil _ _) a0 n0 c0 x0 rfl (i0.below B1) (by simp; omega) (Nat.le_refl _) ?_
  intro ab W2 oab2 bb2
  go_wp2_with (at_builtin; refine Halt.out ?_)
  refine Halt.mk ?_
  have B2 := B1.trans (bb2.mono B1.size)
  refine app rfl _ _ rfl W1.heap.size _ _ rfl oab2 a1 n1 c1 x1 rfl (i1.below B2) (by simp [L0.out]; omega) bb2.size ?_
  intro ab W3 oab3 bb3
  have B3 := B2.trans (bb3.mono B1.size)
  go_wp2_with (at_builtin; refine Halt.out ?_)
  refine Halt.mk ?_
  refine app rfl _ _ rfl W3.heap.size _ [] rfl (Own.nil _ _) a1 n1 c1 x1 rfl (i1.below B3) (by simp; omega) (Nat.le_refl _) ?_
  intro ba W4 oba4 bb4
  have B4 := B3.trans (bb4.mono B3.size)
  have oab4 := oab3.below bb4 oab3.lt'
  go_wp2_with (at_builtin; refine Halt.out ?_)
  refine Halt.mk ?_
  refine app rfl _ _ rfl W3.heap.size _ _ rfl oba4 a0 n0 c0 x0 rfl (i0.below B4) (by simp [L1.out]; omega) bb4.size ?_
  intro ba W5 oba5 bb5
  have B5 := B4.trans (bb5.mono B3.size)
  have oab5 := oab4.below bb5 oab3.lt'
  simp only [List.nil_append] at oab5 oba5
  obtain ⟨pab, nab, cab, rfl, hcab, iab⟩ := oab5.read
  obtain ⟨pba, nba, cba, rfl, hcba, iba⟩ := oba5.read
  go_wp2_with fail
  refine (of_ok _ _ _ x0 _ (i0.below B5) b0 (by omega)).mono ?_
  rintro e w' ⟨rfl, rfl⟩
  go_wp2_with fail
  refine (of_ok _ _ _ x1 _ (i1.below B5) b1 (by omega)).mono ?_
  rintro e w' ⟨rfl, rfl⟩
  go_wp2_with fail
  with_reducible refine (of_ok _ _ _ (x0 ++ x1) _ iab (b0.append b1) (by rw [← iab.len]; simp [L0.out, L1.out]; omega)).mono ?_
  rintro e w' ⟨rfl, rfl⟩
  rw [HZ.out]
  go_wp2_with fail
  with_reducible refine (of_ok _ _ _ (x1 ++ x0) _ iba (b1.append b0) (by rw [← iba.len]; simp [L0.out, L1.out]; omega)).mono ?_
  rintro e w' ⟨rfl, rfl⟩
  rw [HW.out]
  go_wp2_with fail
  with_reducible refine (add_ok _ _ _ ⟨Pl.fold_lo _, Pl.fold_hi _⟩ ⟨Pl.fold_lo _, Pl.fold_hi _⟩).mono ?_
  rintro e W6 ⟨rfl, bb6⟩
  rw [HA.out]
  have B6 := B5.trans (bb6.mono B5.size)
  have oab6 := oab5.below bb6 oab5.lt'
  go_wp2_with fail
  with_reducible refine (not_ok _ _ ⟨Pl.fold_lo _, Pl.fold_hi _⟩).mono ?_
  rintro e W7 ⟨rfl, bb7⟩
  have B7 := B6.trans (bb7.mono B6.size)
  have oab7 := oab6.below bb7 oab6.lt'
  go_wp2_with (at_builtin; refine Halt.out ?_)
  refine Halt.mk ?_
  have ba8 : Below W7.heap.size W7 (W7.alloc (.cells #[.int .u8 ((65535 - Pl.fold (Pl.raw 0 x0 + Pl.raw 0 x1)) / 256), .int .u8 ((65535 - Pl.fold (Pl.raw 0 x0 + Pl.raw 0 x1)) % 256)] 5)) := by go_grown
  have oab8 := oab7.below ba8 oab7.lt'
  have l8 : W1.heap.size ≤ W7.heap.size := by have h5 := B5.size; have := bb2.size; have := bb3.size; have := bb4.size; have := bb5.size; have := bb6.size; have := bb7.size; omega
  refine app rfl _ _ rfl W1.heap.size _ _ rfl oab8 _ 2 _ [_, _] rfl (ints_new W7 _ _ _ .u8 [_, _] rfl) ?_ ?_ ?_
  · rw [← iab.len] at *; simp [L0.out, L1.out]; omega
  · simp; omega
  intro ab W9 oab9 bb9
  have B9 : Below w.heap.size w W9 := by
    have h1 := B7.trans (ba8.mono B7.size)
    exact h1.trans (bb9.mono B1.size)
  obtain ⟨pal, nal, cal, rfl, hcal, ial⟩ := oab9.read
  go_wp2_with fail
  with_reducible refine (of_ok _ _ _ _ _ ial ?_ ?_).mono ?_
  · exact (b0.append b1).append (Pl.IsB.cons (by omega) (by omega) (Pl.IsB.cons (by omega) (by omega) Pl.IsB.nil))
  · rw [← ial.len]; simp [L0.out, L1.out]; omega
  rintro e w' ⟨rfl, rfl⟩
  rw [HC.out]
  go_wp2
  go_ret
  exact ⟨rfl, B9⟩

set_option maxRecDepth 100000 in
theorem lifted (os : Os) (started : os.Started) (H : Type) (enc : TypeId × Value → H) :
    ReturnsInHanded {} Try.checked os 5 .any (Rows.sumPartsSpec.pre6 enc Try.prog Try.f5 Rows.sumPartsRow.domain false) (Rows.sumPartsSpec.post enc Try.prog Try.f5 false true false false) := by
  refine returnsInHanded_of_change (C := Try.checked) own started (by kernel_rfl) Try.func5
    (ChangeSpec.witness6 (enc := enc) (C := Try.checked) false ⟨#[], #[.slice none 0 0, .slice none 0 0], []⟩ 8 (by kernel_rfl) (by kernel_rfl) (by kernel_rfl) (by kernel_rfl)) ?_
  intro W base args ds gs before hval0 hW hcnd _
  have hval : ∀ (j : Nat) t v, Try.f5.params[j]? = some t → args[j]? = some v → Value.okWide Try.prog W .any base t v := hval0
  have hW' := hW
  obtain ⟨p, q, hA0, hV, rfl, hfz, hnd⟩ := hW
  have hA : DataW.TrodAll enc Try.prog W 0 (fun _ => true) true Try.f5.params.toList args.toList ds p := hA0
  rw [Try.params5] at hA hval
  obtain ⟨v0, vs0, d0, ds0, p0, q0, hargs, rfl, rfl, h0, r0⟩ := trodAll_cons hA
  obtain ⟨v1, vs1, d1, ds1, p1, q1, rfl, rfl, rfl, h1, r1⟩ := trodAll_cons r0
  obtain ⟨rfl, rfl, rfl⟩ := trodAll_nil r1
  obtain rfl : args = #[v0, v1] := by cases args; simp_all
  obtain ⟨rfl, rfl⟩ := trodVars_none hV
  have lt0 : ∀ x ∈ p0, x.block < W.heap.size := by obtain ⟨m, hm⟩ := h0; exact DataW.trod_lt m _ _ _ hm
  have k0 := h0
  obtain ⟨a0, n0, c0, rfl⟩ := okWide_slice Try.underlying25 (hval 0 25 v0 rfl rfl)
  obtain ⟨x0, w0⟩ := open_bytes h0
  have lt1 : ∀ x ∈ p1, x.block < W.heap.size := by obtain ⟨m, hm⟩ := h1; exact DataW.trod_lt m _ _ _ hm
  have k1 := h1
  obtain ⟨a1, n1, c1, rfl⟩ := okWide_slice Try.underlying25 (hval 1 25 v1 rfl rfl)
  obtain ⟨x1, w1⟩ := open_bytes h1
  clear hA0 hval0
  refine (walk a0 n0 c0 x0 a1 n1 c1 x1 W w0 w1).mono fun e W' ⟨he, bel⟩ => ?_
  subst he
  exact ⟨_, rfl, _, _, _, [], _, [], hW', trodAll_mk1 (shut_bool Try.underlying4 _), (trodAll_cons_mk (Below.trod laidOut (by kernel_rfl) (of_decide_eq_true (by kernel_rfl)) k0 bel lt0) (trodAll_cons_mk (Below.trod laidOut (by kernel_rfl) (of_decide_eq_true (by kernel_rfl)) k1 bel lt1) trodAll_mk0)), rfl, bel.frame _, fun h => by cases h⟩

theorem over : Rows.sumPartsRow.holds Try.pinned (OpenSpec.ofChange Rows.sumPartsSpec) :=
  OpenClaim.holds_of_wide 5 Try.f5 rfl rfl rfl rfl rfl rfl rfl ⟨rfl, rfl, rfl, rfl, rfl⟩ rfl rfl rfl rfl rfl (by kernel_rfl) Try.func5 (by kernel_rfl)
    (of_decide_eq_true (by kernel_rfl)) (by unfold Func.isWrapper; first | (rw [if_pos (by decide +kernel)]; kernel_rfl) | (rw [if_neg (by decide +kernel)]; exact ⟨rfl, rfl⟩))
    (fun os started H enc _ => lifted os started H enc)

/-- THE STATEMENT. -/
theorem proved : Rows.SumPartsSaid := over
#print axioms proved
end Go.Proofs.Ytlakolkcmbfljaa.sumParts
