/- The law SumIs: sums of any bytes and numbers are what the document says. Conditions: the row's own: errors.errorType holds its handle (tied). -/
import Derived.Test.YtlgdmipejgggkaaDoorFrameD
import Derived.Test.YtlgdmipejgggkaaDoorSame
import Derived.Test.YtlgdmipejgggkaaDoorMem
import Derived.Test.YtlgdmipejgggkaaDoorRef1
import Derived.Test.YtlgdmipejgggkaaDoorTie
import Derived.Test.YtlgdmipejgggkaaDoorCards
import Derived.SevenTiedAt
import Derived.Deep.DeepCutAuto
namespace Go.Proofs.YtlgdmipejgggkaaDoor.sumIs
open Go.ChangeShapes Go.WideShapes Go.ChangeAt Go.RowKit

/-- The number of an error where something is not so; what is told where it is. -/
def e1 (b : Bool) (q : Int) : Int := if b then 0 else q
def p0 (b : Bool) (v : Int) : Int := if b then v else 0
theorem e1_t (q : Int) : e1 true q = 0 := rfl
theorem e1_f (q : Int) : e1 false q = q := rfl
theorem p0_t (v : Int) : p0 true v = v := rfl
theorem p0_f (v : Int) : p0 false v = 0 := rfl
/-- What is told of a sum: the number and the error. -/
theorem of_both (a : Option Addr) (n c : Nat) (xs : List Int) (w : World) (hx : Ints .u8 w a n xs) (hb : Pl.IsB xs) :
    Calls Tryd.prog 9 #[.slice a n c] w fun e w' => e = .returned (.tuple #[.int .i64 (p0 (decide (n ≤ 2000)) (Pl.fold (Pl.raw 0 xs))), erv (e1 (decide (n ≤ 2000)) 3)]) ∧ w = w' := by
  by_cases h : n ≤ 2000
  · rw [decide_eq_true h]
    exact of_ok a n c xs w hx hb h
  · rw [decide_eq_false h]
    exact of_full a n c w (by omega)
theorem add_both (x y : Int) (w : World) : Calls Tryd.prog 13 #[.int .i64 x, .int .i64 y] w fun e w' => e = .returned (.tuple #[.int .i64 (p0 (w16 x && w16 y) (Pl.fold (x + y))), erv (e1 (w16 x && w16 y) 1)]) ∧ Below w.heap.size w w' := by
  cases hx : w16 x
  · exact add_bad x y w (by simp [words, w16_no hx])
  · cases hy : w16 y
    · exact add_bad x y w (by simp [words, w16_no hy])
    · exact add_ok x y w (w16_yes hx) (w16_yes hy)
theorem not_both (x : Int) (w : World) : Calls Tryd.prog 14 #[.int .i64 x] w fun e w' => e = .returned (.tuple #[.int .i64 (p0 (w16 x) (65535 - x)), erv (e1 (w16 x) 1)]) ∧ Below w.heap.size w w' := by
  cases hx : w16 x
  · exact not_bad x w (by simp [words, w16_no hx])
  · exact not_ok x w (w16_yes hx)
theorem swap_both (x y z : Int) (w : World) : Calls Tryd.prog 15 #[.int .i64 x, .int .i64 y, .int .i64 z] w fun e w' => e = .returned (.tuple #[.int .i64 (p0 (w16 x && w16 y && w16 z) (swapv x y z)), erv (e1 (w16 x && w16 y && w16 z) 1)]) ∧ Below w.heap.size w w' := by
  cases hx : w16 x
  · exact swap_bad x y z w (by simp [words, w16_no hx])
  · cases hy : w16 y
    · exact swap_bad x y z w (by simp [words, w16_no hy])
    · cases hz : w16 z
      · exact swap_bad x y z w (by simp [words, w16_no hz])
      · exact swap_ok x y z w (w16_yes hx) (w16_yes hy) (w16_yes hz)

set_option maxRecDepth 100000 in
set_option maxHeartbeats 4000000 in
theorem walk (a0 : Option Addr) (n0 c0 : Nat) (x0 : List Int) (x1 x2 x3 : Int) (w : World) (hg : Handle w) (w0 : IsBytes w a0 n0 c0 x0) (w1 : IsInt x1) (w2 : IsInt x2) (w3 : IsInt x3) :
    Calls Tryd.prog 3 #[.slice a0 n0 c0, .int .i64 x1, .int .i64 x2, .int .i64 x3] w fun e w' => e = .returned (.bool true) ∧ Below w.heap.size w w' := by
  obtain ⟨hb, hB, hnc, hcm⟩ := w0
  have HB := Lib.hid hb
  have HBB := Lib.hid hB
  have HG := Lib.hid hg
  clear hb hB hg
  unfold IsInt at w1 w2 w3
  by_cases h3 : n0 ≤ 3000
  case neg =>
    have h3' : (3000 : Int) < (n0 : Int) := by omega
    go_enter Tryd.func3, Tryd.ntmps3
    go_wp2_with fail
    go_ret
    exact ⟨rfl, Below.refl _ _⟩
  have h3' : ¬ (3000 : Int) < (n0 : Int) := by omega
  go_enter Tryd.func3, Tryd.ntmps3
  go_upto_if 22 with (fail)
  go_cut [9, 10] (fun e n wc => w = wc ∧ e = .int .i64 (e1 (decide (n0 ≤ 2000)) 3) ∧ n = .int .i64 (p0 (decide (n0 ≤ 2000)) (Pl.fold (Pl.raw 0 x0))))
  case first =>
    by_cases h : n0 ≤ 2000
    · have h' : ¬ (2000 : Int) < (n0 : Int) := by omega
      go_wp2_with fail
      refine (sumOf_any a0 n0 c0 x0 w HB.out HBB.out (by omega)).mono ?_
      rintro e w' ⟨rfl, rfl⟩
      go_wp2_with fail
      go_meet
      rw [decide_eq_true h]
      exact ⟨rfl, rfl, rfl⟩
    · have h' : (2000 : Int) < (n0 : Int) := by omega
      go_wp2_with fail
      go_meet
      rw [decide_eq_false h]
      exact ⟨rfl, rfl, rfl⟩
  obtain ⟨rfl, rfl, rfl⟩ := hcut
  have HOF := Lib.hid (of_both a0 n0 c0 x0 w HB.out HBB.out)
  generalize p0 (decide (n0 ≤ 2000)) (Pl.fold (Pl.raw 0 x0)) = V at *
  generalize e1 (decide (n0 ≤ 2000)) 3 = E at *
  go_wp2_with fail
  refine HOF.out.mono ?_
  clear HOF
  rintro e w' ⟨rfl, rfl⟩
  have HE := Lib.hid (err_same E)
  generalize erv E = ev at *
  go_wp2_with fail
  refine (HE.out w HG.out).mono ?_
  clear HE
  rintro e W1 ⟨rfl, E1⟩
  go_wp2_with fail
  refine (word_any x1 W1).mono ?_
  rintro e w' ⟨rfl, rfl⟩
  go_wp2_with fail
  refine (word_any x2 W1).mono ?_
  rintro e w' ⟨rfl, rfl⟩
  go_wp2_with fail
  refine (word_any x3 W1).mono ?_
  rintro e w' ⟨rfl, rfl⟩
  obtain ⟨p, hp⟩ : ∃ p, w16 x1 = p := ⟨_, rfl⟩
  obtain ⟨q, hq⟩ : ∃ q, w16 x2 = q := ⟨_, rfl⟩
  obtain ⟨r, hr⟩ : ∃ r, w16 x3 = r := ⟨_, rfl⟩
  have HADD := fun w => add_both x1 x2 w
  have HNOT := fun w => not_both x1 w
  have HSWAP := fun w => swap_both x1 x2 x3 w
  rw [hp, hq] at HADD
  rw [hp] at HNOT
  rw [hp, hq, hr] at HSWAP
  rw [hp, hq, hr]
  have HADD := Lib.hid HADD
  have HNOT := Lib.hid HNOT
  have HSWAP := Lib.hid HSWAP
  have HP := Lib.hid hp
  have HQ := Lib.hid hq
  have HR := Lib.hid hr
  have G1 := Lib.hid (HG.out.below E1)
  clear hp hq hr
  go_upto_region 17 with (fail)
  go_cut [51] (fun b wc => W1 = wc ∧ b = .bool (!(p && q)))
  case first =>
    cases p
    all_goals
      go_wp2_with fail
      go_meet
      exact ⟨rfl, by cases q <;> rfl⟩
  obtain ⟨rfl, rfl⟩ := hcut
  go_upto_if 51 with (fail)
  go_cut [9, 10] (fun e n wc => W1 = wc ∧ e = .int .i64 (e1 (p && q) 1) ∧ n = .int .i64 (p0 (p && q) (Pl.fold (x1 + x2))))
  case first =>
    cases hpq : p && q
    · have HPQ := Lib.hid hpq
      clear hpq
      go_wp2_with fail
      go_meet
      exact ⟨rfl, by rw [HPQ.out]; rfl, by rw [HPQ.out]; rfl⟩
    · have HPQ := Lib.hid hpq
      simp only [Bool.and_eq_true] at hpq
      obtain ⟨y0, y1⟩ := w16_yes (HP.out.trans hpq.1)
      obtain ⟨z0, z1⟩ := w16_yes (HQ.out.trans hpq.2)
      have ew : IntKind.i64.wrap (x1 + x2) = x1 + x2 := IntWalk.i64_in _ (by omega)
      clear hpq
      go_wp2_with fail
      refine (rfold_any (x1 + x2) W1 (by omega) (by omega)).mono ?_
      rintro e w' ⟨rfl, rfl⟩
      go_wp2_with fail
      go_meet
      exact ⟨rfl, by rw [HPQ.out]; rfl, by rw [HPQ.out]; rfl⟩
  obtain ⟨rfl, rfl, rfl⟩ := hcut
  have HADD2 := HADD.out
  generalize p0 (p && q) (Pl.fold (x1 + x2)) = V2 at *
  generalize e1 (p && q) 1 = E2 at *
  go_wp2_with fail
  refine (HADD2 W1).mono ?_
  clear HADD2
  rintro e W2 ⟨rfl, b2⟩
  have HE := Lib.hid (err_same E2)
  have B2 : Ext w W2 := Ext.trans E1 b2
  have G2 := Lib.hid (G1.out.below b2)
  clear b2
  generalize erv E2 = ev2 at *
  go_wp2_with fail
  refine (HE.out W2 G2.out).mono ?_
  clear HE
  rintro e W3 ⟨rfl, b3⟩
  have B3 : Ext w W3 := B2.trans b3
  have G3 := Lib.hid (G2.out.below b3)
  clear b3 B2 G2
  go_upto_if 73 with (fail)
  go_cut [9, 10] (fun e n wc => W3 = wc ∧ e = .int .i64 (e1 p 1) ∧ n = .int .i64 (p0 p (65535 - x1)))
  case first =>
    cases p
    · go_wp2_with fail
      go_meet
      exact ⟨rfl, rfl, rfl⟩
    · obtain ⟨y0, y1⟩ := w16_yes HP.out
      have ew : IntKind.i64.wrap (65535 - x1) = 65535 - x1 := IntWalk.i64_in _ (by omega)
      go_wp2_with fail
      go_meet
      exact ⟨rfl, rfl, rfl⟩
  obtain ⟨rfl, rfl, rfl⟩ := hcut
  have HNOT2 := HNOT.out
  generalize p0 p (65535 - x1) = V3 at *
  generalize e1 p 1 = E3 at *
  go_wp2_with fail
  refine (HNOT2 W3).mono ?_
  clear HNOT2
  rintro e W4 ⟨rfl, b4⟩
  have HE := Lib.hid (err_same E3)
  have B4 : Ext w W4 := B3.trans b4
  have G4 := Lib.hid (G3.out.below b4)
  clear b4 B3 G3
  generalize erv E3 = ev3 at *
  go_wp2_with fail
  refine (HE.out W4 G4.out).mono ?_
  clear HE
  rintro e W5 ⟨rfl, b5⟩
  have B5 : Ext w W5 := B4.trans b5
  have G5 := Lib.hid (G4.out.below b5)
  clear b5 B4 G4
  go_upto_region 35 with (fail)
  go_cut [100] (fun b wc => W5 = wc ∧ b = .bool (!(p && q && r)))
  case first =>
    cases p
    case' true => cases q
    all_goals
      go_wp2_with fail
      go_meet
      exact ⟨rfl, by cases r <;> first | rfl | (cases q <;> rfl)⟩
  obtain ⟨rfl, rfl⟩ := hcut
  go_upto_if 100 with (fail)
  go_cut [9, 10] (fun e n wc => W5 = wc ∧ e = .int .i64 (e1 (p && q && r) 1) ∧ n = .int .i64 (p0 (p && q && r) (swapv x1 x2 x3)))
  case first =>
    cases hpq : p && q && r
    · have HPQ := Lib.hid hpq
      clear hpq
      go_wp2_with fail
      go_meet
      exact ⟨rfl, by rw [HPQ.out]; rfl, by rw [HPQ.out]; rfl⟩
    · have HPQ := Lib.hid hpq
      simp only [Bool.and_eq_true] at hpq
      obtain ⟨y0, y1⟩ := w16_yes (HP.out.trans hpq.1.1)
      obtain ⟨z0, z1⟩ := w16_yes (HQ.out.trans hpq.1.2)
      obtain ⟨v0, v1⟩ := w16_yes (HR.out.trans hpq.2)
      have ew1 : IntKind.i64.wrap (65535 - x1) = 65535 - x1 := IntWalk.i64_in _ (by omega)
      have ew2 : IntKind.i64.wrap (65535 - x1 + 65535) = 65535 - x1 + 65535 := IntWalk.i64_in _ (by omega)
      have ew3 : IntKind.i64.wrap (65535 - x1 + 65535 - x2) = 65535 - x1 + 65535 - x2 := IntWalk.i64_in _ (by omega)
      have f0 := Pl.fold_lo (65535 - x1 + 65535 - x2)
      have f1 := Pl.fold_hi (65535 - x1 + 65535 - x2)
      clear hpq
      go_wp2_with fail
      refine (rfold_any (65535 - x1 + 65535 - x2) W5 (by omega) (by omega)).mono ?_
      rintro e w' ⟨rfl, rfl⟩
      obtain ⟨F, hF⟩ : ∃ F, F = Pl.fold (65535 - x1 + 65535 - x2) := ⟨_, rfl⟩
      rw [← hF] at f0 f1 ⊢
      have HF := Lib.hid hF
      clear hF
      have ew4 : IntKind.i64.wrap (F + x3) = F + x3 := IntWalk.i64_in _ (by omega)
      have g0 := Pl.fold_lo (F + x3)
      have g1 := Pl.fold_hi (F + x3)
      go_wp2_with fail
      refine (rfold_any (F + x3) W5 (by omega) (by omega)).mono ?_
      rintro e w' ⟨rfl, rfl⟩
      have ew5 : IntKind.i64.wrap (65535 - Pl.fold (F + x3)) = 65535 - Pl.fold (F + x3) := IntWalk.i64_in _ (by omega)
      go_wp2_with fail
      go_meet
      exact ⟨rfl, by rw [HPQ.out]; rfl, by rw [HPQ.out, p0_t, HF.out]; rfl⟩
  obtain ⟨rfl, rfl, rfl⟩ := hcut
  have HSWAP2 := HSWAP.out
  generalize p0 (p && q && r) (swapv x1 x2 x3) = V4 at *
  generalize e1 (p && q && r) 1 = E4 at *
  go_wp2_with fail
  refine (HSWAP2 W5).mono ?_
  clear HSWAP2
  rintro e W6 ⟨rfl, b6⟩
  have HE := Lib.hid (err_same E4)
  have B6 : Ext w W6 := B5.trans b6
  have G6 := Lib.hid (G5.out.below b6)
  clear b6 B5 G5
  generalize erv E4 = ev4 at *
  go_wp2_with fail
  refine (HE.out W6 G6.out).mono ?_
  clear HE
  rintro e W7 ⟨rfl, b7⟩
  have B7 : Ext w W7 := B6.trans b7
  go_wp2_with fail
  go_ret
  exact ⟨rfl, B7⟩

set_option maxRecDepth 100000 in
theorem lifted (os : Os) (started : os.Started) (H : Type) (enc : TypeId × Value → H) :
    ReturnsInHanded {} Tryd.checked os 3 .any (fun w args => (Rows.sumIsSpec.pre enc Tryd.prog Tryd.f3 [] false w args ∧ laidMetH Tryd.prog laid w) ∧ sizedMet enc Tryd.prog Tryd.f3 (OpenSpec.ofChange Rows.sumIsSpec) false w args)
      (Rows.sumIsSpec.post enc Tryd.prog Tryd.f3 false true false false) := by
  refine returnsInHanded_of_change_and (C := Tryd.checked) (X := fun w _ => laidMetH Tryd.prog laid w) (fun _ _ _ hh h => h.of_heap hh) own started (by kernel_rfl) Tryd.func3
    (ChangeSpec.witness_at (enc := enc) (C := Tryd.checked) (os := os) (X := fun w _ => laidMetH Tryd.prog laid w) false (laidWorld os) #[.slice none 0 0, .int .i64 0, .int .i64 0, .int .i64 0] 8 rfl (by kernel_rfl) (by kernel_rfl) (by kernel_rfl) (by kernel_rfl) (by kernel_rfl) (laidWorld_met os _)) ?_
  intro W base args ds gs before hval0 hW _ _ hL _
  have hval : ∀ (j : Nat) t v, Tryd.f3.params[j]? = some t → args[j]? = some v → Value.okWide Tryd.prog W .any base t v := hval0
  have hW' := hW
  obtain ⟨p, q, hA0, hV0, rfl, hfz, hnd⟩ := hW
  have hA : DataW.TrodAll enc Tryd.prog W 0 (fun _ => true) true Tryd.f3.params.toList args.toList ds p := hA0
  have hV : DataW.TrodVars enc Tryd.prog W (fun _ => true) [] gs q := hV0
  have hg := handle_of_laid hL
  rw [Tryd.params3] at hA hval
  obtain ⟨v0, vs0, d0, ds0, p0, q0, hargs, rfl, rfl, h0, r0⟩ := trodAll_cons hA
  obtain ⟨v1, vs1, d1, ds1, p1, q1, rfl, rfl, rfl, h1, r1⟩ := trodAll_cons r0
  obtain ⟨v2, vs2, d2, ds2, p2, q2, rfl, rfl, rfl, h2, r2⟩ := trodAll_cons r1
  obtain ⟨v3, vs3, d3, ds3, p3, q3, rfl, rfl, rfl, h3, r3⟩ := trodAll_cons r2
  obtain ⟨rfl, rfl, rfl⟩ := trodAll_nil r3
  obtain rfl : args = #[v0, v1, v2, v3] := by cases args; simp_all
  obtain ⟨rfl, rfl⟩ := vars_nil hV
  have lt0 : ∀ x ∈ p0, x.block < W.heap.size := by obtain ⟨m, hm⟩ := h0; exact DataW.trod_lt m _ _ _ hm
  have k0 := h0
  obtain ⟨a0, n0, c0, rfl⟩ := okWide_slice Tryd.underlying22 (hval 0 22 v0 rfl rfl)
  obtain ⟨x0, w0⟩ := open_bytes h0
  have lt1 : ∀ x ∈ p1, x.block < W.heap.size := by obtain ⟨m, hm⟩ := h1; exact DataW.trod_lt m _ _ _ hm
  have k1 := h1
  obtain ⟨x1, rfl, _, _, w1'⟩ := open_int Tryd.underlying3 (hval 1 3 v1 rfl rfl) h1
  have w1 : IsInt x1 := wf_i64 w1'
  have lt2 : ∀ x ∈ p2, x.block < W.heap.size := by obtain ⟨m, hm⟩ := h2; exact DataW.trod_lt m _ _ _ hm
  have k2 := h2
  obtain ⟨x2, rfl, _, _, w2'⟩ := open_int Tryd.underlying3 (hval 2 3 v2 rfl rfl) h2
  have w2 : IsInt x2 := wf_i64 w2'
  have lt3 : ∀ x ∈ p3, x.block < W.heap.size := by obtain ⟨m, hm⟩ := h3; exact DataW.trod_lt m _ _ _ hm
  have k3 := h3
  obtain ⟨x3, rfl, _, _, w3'⟩ := open_int Tryd.underlying3 (hval 3 3 v3 rfl rfl) h3
  have w3 : IsInt x3 := wf_i64 w3'
  clear hA0 hval0
  refine (walk a0 n0 c0 x0 x1 x2 x3 W hg w0 w1 w2 w3).mono fun e W' ⟨he, bel⟩ => ?_
  subst he
  exact ⟨_, rfl, _, _, _, [], _, [], hW', trodAll_mk1 (shut_bool Tryd.underlying4 _), (trodAll_cons_mk (Below.trod laidOut (by kernel_rfl) (of_decide_eq_true (by kernel_rfl)) k0 bel lt0) (trodAll_cons_mk (Below.trod laidOut (by kernel_rfl) (of_decide_eq_true (by kernel_rfl)) k1 bel lt1) (trodAll_cons_mk (Below.trod laidOut (by kernel_rfl) (of_decide_eq_true (by kernel_rfl)) k2 bel lt2) (trodAll_cons_mk (Below.trod laidOut (by kernel_rfl) (of_decide_eq_true (by kernel_rfl)) k3 bel lt3) trodAll_mk0)))), rfl, bel.frame _, fun h => by cases h⟩

theorem over : Rows.sumIsRow.holds Tryd.pinned (OpenSpec.ofChange Rows.sumIsSpec) :=
  OpenClaim.holds_of_wide 3 Tryd.f3 rfl rfl rfl rfl rfl rfl rfl ⟨rfl, rfl, rfl, rfl, rfl⟩ rfl rfl rfl rfl rfl (by kernel_rfl) Tryd.func3 (by kernel_rfl)
    (of_decide_eq_true (by kernel_rfl)) (by unfold Func.isWrapper; first | (rw [if_pos (by decide +kernel)]; kernel_rfl) | (rw [if_neg (by decide +kernel)]; exact ⟨rfl, rfl⟩))
    (fun os started H enc _ => lifted os started H enc)

/-- THE STATEMENT. -/
theorem proved : Rows.SumIsCardSaid :=
  Claim7.holds_tied_plain_at .later [] _ _ _ _
    over (fun _ h => by cases h) (by kernel_rfl) (fun _ h => by cases h) sumIs_row_tie rfl ⟨rfl, rfl⟩ (by kernel_rfl) rfl
    (fun f fn hf hfn => by
      obtain rfl : f = 3 := Option.some.inj ((show Tryd.prog.funcNamed "gangplank/gangplanklaw1.SumIs" = some 3 by kernel_rfl).symm.trans hf) |>.symm
      obtain rfl : fn = Tryd.f3 := (Option.some.inj (Tryd.func3.symm.trans hfn)).symm
      exact ⟨by kernel_rfl, fun j t ht => by
        rw [Tryd.params3] at ht
        have hall : ((#[22, 3, 3, 3] : Array Nat).all fun t => !Tryd.prog.wantsStandIn t) = true := by kernel_rfl
        have := Array.all_eq_true'.1 hall t (Array.mem_of_getElem? ht)
        show Tryd.prog.wantsStandIn t = false
        simpa using this⟩)
    (by kernel_rfl)
#print axioms proved
end Go.Proofs.YtlgdmipejgggkaaDoor.sumIs
