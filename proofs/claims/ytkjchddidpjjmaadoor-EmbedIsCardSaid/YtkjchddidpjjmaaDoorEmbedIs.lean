/- The law EmbedIs: any four in any prefix, and out of any address, as the document says. Conditions: the row's own: errors.errorType holds its handle (tied). -/
import Derived.Test.YtkjchddidpjjmaaDoorFrameD
import Derived.Test.YtkjchddidpjjmaaDoorOpen6
import Derived.Test.YtkjchddidpjjmaaDoorRefE
import Derived.Test.YtkjchddidpjjmaaDoorSame
import Derived.Test.YtkjchddidpjjmaaDoorSixEq
import Derived.Test.YtkjchddidpjjmaaDoorTie
import Derived.Test.YtkjchddidpjjmaaDoorCards
import Derived.SevenTiedAt
import Derived.Deep.DeepCutAuto
namespace Go.Proofs.YtkjchddidpjjmaaDoor.embedIs
open Go.ChangeShapes Go.WideShapes Go.ChangeAt Go.RowKit

theorem stored6 (W : World) (S : Six) : (Instr.storeAt 23 (.pointer (some ⟨W.heap.size, 0, none⟩)) (.agg S.cells)).run Tryd.prog (W.alloc (.cells zc6 23)) = .ok () ((W.alloc (.cells zc6 23)).setRow W.heap.size S.cells) ∧
    Ext W ((W.alloc (.cells zc6 23)).setRow W.heap.size S.cells) ∧ Blk ((W.alloc (.cells zc6 23)).setRow W.heap.size S.cells) W.heap.size 23 S.cells :=
  ⟨(Blk.new W _ _).store rfl Tryd.size6 (by simp [Six.cells, Value.oneCell']), ((Ext.refl W).alloc _).row (Nat.le_refl _) _, (Blk.new W _ _).row _⟩

/-- The fault of a four in a prefix, as the law puts it together. -/
theorem into_err_f {p : Six} {n four : Int} (h : Pl.pfxErr p n = 0) (hf : w32 four = false) : Pl.intoErr p n four = 1 := by
  unfold Pl.intoErr
  rw [if_pos h, if_neg (w32_no hf)]
theorem into_err_t {p : Six} {n four : Int} (h : Pl.pfxErr p n = 0) (hf : w32 four = true) : Pl.intoErr p n four = 0 := by
  unfold Pl.intoErr
  rw [if_pos h, if_pos (w32_yes hf)]
theorem into_err_n {p : Six} {n four : Int} (h : Pl.pfxErr p n ≠ 0) : Pl.intoErr p n four = Pl.pfxErr p n := by
  unfold Pl.intoErr
  rw [if_neg h]
theorem into_z {p : Six} {n four : Int} (h : Pl.intoErr p n four ≠ 0) : (Pl.into p n four).cells = zc6 := by
  unfold Pl.into
  rw [if_neg h]
  rfl
/-- The fault of an address. -/
def e1 (b : Bool) : Int := if b then 0 else 1
/-- The fault of an address behind a prefix, ahead of what OutOf says. -/
def preErr (b c : Bool) : Int := if b then (if c then 0 else 1) else 1
theorem pre_zero {b c : Bool} (h : preErr b c = 0) : b = true ∧ c = true := by cases b <;> cases c <;> simp_all [preErr]
theorem out_pre {a : Six} {n : Int} (h : preErr (okS a) (Pl.longB n) ≠ 0) : Pl.outErr a n = preErr (okS a) (Pl.longB n) ∧ Pl.outVal a n = 0 := by
  have he : Pl.outErr a n = 1 ∧ preErr (okS a) (Pl.longB n) = 1 := by
    unfold Pl.outErr preErr at *
    cases h1 : okS a <;> cases h2 : Pl.longB n <;> simp_all
  refine ⟨by rw [he.1, he.2], ?_⟩
  unfold Pl.outVal
  rw [if_neg (by rw [he.1]; decide)]

set_option maxRecDepth 100000 in
set_option maxHeartbeats 4000000 in
theorem walk (p : Six) (n four : Int) (a : Six) (w : World) (hg : Handle w) (_ : p.Is) (_ : IsInt n) (_ : IsInt four) (_ : a.Is) :
    Calls Tryd.prog 3 #[p.v, .int .i64 n, .int .i64 four, a.v] w fun e w' => e = .returned (.bool true) ∧ Below w.heap.size w w' := by
  have HG := Lib.hid hg
  have K0 := (Blk.new w 23 p.cells).alloc (.cells a.cells 23)
  have J0 := Blk.at (n := w.heap.size + 1) (w.alloc (.cells p.cells 23)) 23 a.cells (by simp)
  have E0 : Ext w ((w.alloc (.cells p.cells 23)).alloc (.cells a.cells 23)) := ((Ext.refl w).alloc _).alloc _
  have l0 := K0.six0
  clear hg
  go_enter Tryd.func3, Tryd.ntmps3
  go_wp2_with ((apply load_by rfl _ _ rfl _ rfl); (focus (with_reducible assumption)))
  refine (rpfx_any p n _).mono ?_
  rintro e W1 ⟨rfl, q1⟩
  have E1 := E0.trans q1
  have K1 := K0.ext q1
  have J1 := J0.ext q1
  have l1 := K1.six0
  clear l0 K0 J0 E0 q1
  go_wp2_with ((apply load_by rfl _ _ rfl _ rfl); (focus (with_reducible assumption)))
  refine (echeck_any p n _).mono ?_
  rintro e W2 ⟨rfl, q2⟩
  have E2 := E1.trans q2
  have K2 := K1.ext q2
  have J2 := J1.ext q2
  clear l1 K1 J1 E1 q2
  go_wp2_with fail
  refine (err_same _ W2 (HG.out.below E2)).mono ?_
  rintro e W3 ⟨rfl, q3⟩
  have E3 : Ext w W3 := Ext.trans E2 q3
  have K3 := Blk.ext K2 q3
  have J3 := Blk.ext J2 q3
  clear K2 J2 E2 q3
  go_wp2_with fail
  refine (isFour_any four W3).mono ?_
  rintro e w' ⟨rfl, rfl⟩
  have E4 := E3.alloc (.cells zc6 23)
  have K4 := K3.alloc (.cells zc6 23)
  have J4 := J3.alloc (.cells zc6 23)
  have Z4 := Blk.new W3 23 zc6
  have hsz : w.heap.size + 1 < W3.heap.size := J3.lt
  clear K3 J3 E3
  obtain ⟨q, hq⟩ : ∃ q, Pl.pfxErr p n = q := ⟨_, rfl⟩
  obtain ⟨f, hf⟩ : ∃ f, w32 four = f := ⟨_, rfl⟩
  obtain ⟨E, hE⟩ : ∃ E, Pl.intoErr p n four = E := ⟨_, rfl⟩
  rw [hq, hf]
  have HQ := Lib.hid hq
  have HF := Lib.hid hf
  have HE := Lib.hid hE
  clear hq hf hE
  go_upto_region 7 with (fail)
  generalize hW : W3.alloc (.cells zc6 23) = W4 at *
  go_cut [35] (fun b wc => W4 = wc ∧ b = .bool ((q == 0) && !f))
  case first =>
    by_cases hz : q = 0
    · have hzb : (q == 0) = true := by simpa using hz
      clear hz
      go_wp2_with fail
      go_meet
      exact ⟨rfl, by rw [hzb]; rfl⟩
    · have hzb : (q == 0) = false := by simpa using hz
      clear hz
      go_wp2_with fail
      go_meet
      exact ⟨rfl, by rw [hzb]; rfl⟩
  obtain ⟨rfl, rfl⟩ := hcut
  obtain ⟨g, hgb⟩ : ∃ g, ((q == 0) && !f) = g := ⟨_, rfl⟩
  rw [hgb]
  have HGB := Lib.hid hgb
  clear hgb
  go_upto_if 35 with (fail)
  go_cut [9] (fun e wc => W4 = wc ∧ e = .int .i64 E)
  case first =>
    cases g
    · have HR := Lib.hid (show q = E by
        have hh := HGB.out
        by_cases hz : q = 0
        · subst hz
          cases f
          · simp at hh
          · exact (into_err_t (four := four) HQ.out HF.out).symm.trans HE.out
        · exact HQ.out.symm.trans ((into_err_n (four := four) (by rw [HQ.out]; exact hz)).symm.trans HE.out))
      go_wp2_with fail
      go_meet
      exact ⟨rfl, by rw [HR.out]⟩
    · have HR := Lib.hid (show (1 : Int) = E by
        have hh := HGB.out
        simp at hh
        obtain ⟨hz, hf⟩ := hh
        exact (into_err_f (four := four) (HQ.out.trans hz) (HF.out.trans hf)).symm.trans HE.out)
      go_wp2_with fail
      go_meet
      exact ⟨rfl, by rw [← HR.out]⟩
  obtain ⟨rfl, rfl⟩ := hcut
  clear hW
  have HIN := Lib.hid (fun W => into_any p n four W)
  have HIZ := Lib.hid (fun (h : E ≠ 0) => into_z (p := p) (n := n) (four := four) (by rw [HE.out]; exact h))
  have HIO := Lib.hid (fun (h : E = 0) (W : World) => (show Calls Tryd.prog 13 #[p.v, .int .i64 n, .int .i64 four] W (fun e w' => e = .returned (Pl.into p n four).v ∧ Ext W w') from by
    have h0 : Pl.intoErr p n four = 0 := by rw [HE.out]; exact h
    have hp : Pl.pfxErr p n = 0 := by
      by_cases hp : Pl.pfxErr p n = 0
      · exact hp
      · have := into_err_n (four := four) hp; rw [h0] at this; exact this.symm
    obtain ⟨h1, h2, _⟩ := Pl.pfx_zero hp
    obtain ⟨m, m4, m12, rfl, hm⟩ := Pl.longB_nat h2
    have hf : w32 four = true := by
      cases hf : w32 four
      · have := into_err_f (four := four) hp hf; rw [h0] at this; cases this
      · rfl
    have := rinto_ok p m four W h1 ⟨m4, m12⟩ (w32_yes hf)
    have e : Pl.into p (8 * (m : Int)) four = sixAt (Pl.put (Pl.two p.l) (Pl.four four) (Pl.spots m)) := by unfold Pl.into; rw [if_pos h0, hm]
    rw [e]; exact this))
  rw [HE.out] at HIN
  generalize Pl.into p n four = S at *
  go_upto_if 37 with (fail)
  go_cut [] (fun wc => Ext w wc ∧ Blk wc w.heap.size 23 p.cells ∧ Blk wc (w.heap.size + 1) 23 a.cells ∧ Blk wc W3.heap.size 23 S.cells)
  case first =>
    by_cases hz : E = 0
    · have l4 := K4.six0
      have HZ := Lib.hid hz
      have hzb : (E == 0) = true := by simpa using hz
      clear hz
      go_wp2_with ((apply load_by rfl _ _ rfl _ rfl); (focus (with_reducible assumption)))
      refine (HIO.out HZ.out _).mono ?_
      rintro e W5 ⟨rfl, q5⟩
      have E5 := E4.trans q5
      have K5 := K4.ext q5
      have J5 := J4.ext q5
      have Z5 := Z4.ext q5
      have s5 := Z5.store (cs := S.cells) rfl Tryd.size6 (by simp [Six.cells, Value.oneCell'])
      have E6 := E5.row (k := W3.heap.size) (by omega) S.cells
      have K6 := K5.farRow (show w.heap.size ≠ W3.heap.size by omega) S.cells
      have J6 := J5.farRow (show w.heap.size + 1 ≠ W3.heap.size by omega) S.cells
      have Z6 := Z5.row S.cells
      clear l4 K4 J4 Z4 K5 J5 Z5 E5 q5
      go_wp2_with ((apply store_by rfl _ _ _ rfl _ rfl); (focus (with_reducible assumption)); (focus rfl))
      go_meet
      exact ⟨E6, K6, J6, Z6⟩
    · have hzb : (E == 0) = false := by simpa using hz
      have HZ := Lib.hid hz
      clear hz
      go_wp2_with fail
      go_meet
      exact ⟨E4, K4, J4, by rw [HIZ.out HZ.out]; exact Z4⟩
  obtain ⟨E6, K6, J6, Z6⟩ := hcut
  clear E4 K4 J4 Z4 HIO HIZ
  have l6 := K6.six0
  go_wp2_with ((apply load_by rfl _ _ rfl _ rfl); (focus (with_reducible assumption)))
  refine (HIN.out _).mono ?_
  rintro e W7 ⟨rfl, q7⟩
  have E7 := E6.trans q7
  have J7 := J6.ext q7
  have Z7 := Z6.ext q7
  obtain ⟨s8, q8, k8⟩ := stored6 W7 S
  have E8 := E7.trans q8
  have J8 := J7.ext q8
  have Z8 := Z7.ext q8
  clear l6 E6 K6 J6 Z6 q7 E7 J7 Z7 HIN
  go_wp2_with ((apply store_by rfl _ _ _ rfl _ rfl); (focus (with_reducible assumption)); (focus rfl))
  refine at_world (fun W => Ext w W ∧ Blk W (w.heap.size + 1) 23 a.cells ∧ Blk W W3.heap.size 23 S.cells ∧ Blk W W7.heap.size 23 S.cells) ⟨E8, J8, Z8, k8⟩ ?_
  clear s8 E8 J8 Z8 k8 q8
  rintro W8 ⟨E8, J8, Z8, k8⟩
  refine (err_same _ W8 (HG.out.below E8)).mono ?_
  rintro e W9 ⟨rfl, q9⟩
  have E9 : Ext w W9 := Ext.trans E8 q9
  have J9 := Blk.ext J8 q9
  have cz := (Blk.ext Z8 q9).six0
  have ck := (Blk.ext k8 q9).six0
  have l9 := J9.six0
  have hse := fun W => six_same S W
  clear E8 J8 Z8 k8 q9
  go_wp2_with ((apply load_by rfl _ _ rfl _ rfl); (focus (with_reducible assumption)))
  refine (sixFault_any a W9).mono ?_
  rintro e W10 ⟨rfl, q10⟩
  have E10 := E9.trans q10
  have J10 := J9.ext q10
  clear cz ck l9 E9 J9 q10 hse
  go_wp2_with fail
  refine (rlong_any n W10).mono ?_
  rintro e w' ⟨rfl, rfl⟩
  obtain ⟨c, hc⟩ : ∃ c, okS a = c := ⟨_, rfl⟩
  obtain ⟨d, hd⟩ : ∃ d, Pl.longB n = d := ⟨_, rfl⟩
  have hsx : sixE a = e1 c := by unfold e1; cases c <;> first | exact sixE_yes hc | exact sixE_no hc
  rw [hsx, hd]
  have HP := Lib.hid (fun (h : preErr c d ≠ 0) => (show Pl.outErr a n = preErr c d ∧ Pl.outVal a n = 0 from by rw [← hc, ← hd] at h ⊢; exact out_pre h))
  have HOUT := Lib.hid (fun W => out_any a n W)
  have HRO := Lib.hid (fun (h1 : c = true) (h2 : d = true) (W : World) => (show Calls Tryd.prog 17 #[a.v, .int .i64 n] W (fun e w' => e = .returned (.tuple #[.int .i64 (Pl.outVal a n), .int .i64 (Pl.outErr a n)]) ∧ Ext W w') from by
    obtain ⟨m, m4, m12, rfl, hm⟩ := Pl.longB_nat (hd.trans h2)
    exact rout_ok a m W (hc.trans h1) ⟨m4, m12⟩ (hd.trans h2)))
  generalize Pl.outErr a n = X at *
  generalize Pl.outVal a n = V at *
  clear hc hd hsx
  go_upto_region 18 with (fail)
  go_cut [68] (fun b wc => W10 = wc ∧ b = .bool (c && !d))
  case first =>
    cases c
    all_goals
      unfold e1
      go_wp2_with fail
      go_meet
      exact ⟨rfl, rfl⟩
  obtain ⟨rfl, rfl⟩ := hcut
  go_upto_if 68 with (fail)
  go_cut [9] (fun e wc => W10 = wc ∧ e = .int .i64 (preErr c d))
  case first =>
    cases c <;> cases d
    all_goals
      unfold e1
      go_wp2_with fail
      go_meet
      exact ⟨rfl, rfl⟩
  obtain ⟨rfl, rfl⟩ := hcut
  go_upto_if 70 with (fail)
  go_cut [9, 16] (fun e k wc => Ext w wc ∧ Blk wc (w.heap.size + 1) 23 a.cells ∧ e = .int .i64 X ∧ k = .int .i64 V)
  case first =>
    by_cases hz : preErr c d = 0
    · obtain ⟨rfl, rfl⟩ := pre_zero hz
      have l10 := J10.six0
      unfold preErr
      clear hz
      go_wp2_with ((apply load_by rfl _ _ rfl _ rfl); (focus (with_reducible assumption)))
      refine (HRO.out (by first | rfl | trivial) (by first | rfl | trivial) _).mono ?_
      rintro e W11 ⟨rfl, q11⟩
      have E11 := E10.trans q11
      have J11 := J10.ext q11
      clear l10 q11 E10 J10
      go_wp2_with fail
      go_meet
      exact ⟨E11, J11, rfl, rfl⟩
    · have hzb : (preErr c d == 0) = false := by simpa using hz
      have HZ := Lib.hid (HP.out hz)
      clear hz
      go_wp2_with fail
      go_meet
      exact ⟨E10, J10, by rw [HZ.out.1], by rw [HZ.out.2]⟩
  obtain ⟨E11, J11, rfl, rfl⟩ := hcut
  have l11 := J11.six0
  clear E10 J10 HP HRO
  go_wp2_with ((apply load_by rfl _ _ rfl _ rfl); (focus (with_reducible assumption)))
  refine (HOUT.out _).mono ?_
  rintro e W12 ⟨rfl, q12⟩
  have E12 := E11.trans q12
  clear l11 J11 E11 q12
  go_wp2_with fail
  refine (err_same _ W12 (HG.out.below E12)).mono ?_
  rintro e W13 ⟨rfl, q13⟩
  have E13 : Ext w W13 := Ext.trans E12 q13
  go_wp2_with fail
  go_ret
  exact ⟨by simp, E13⟩
set_option maxRecDepth 100000 in
theorem lifted (os : Os) (started : os.Started) (H : Type) (enc : TypeId × Value → H) :
    ReturnsInHanded {} Tryd.checked os 3 .any (fun w args => (Rows.embedIsSpec.pre enc Tryd.prog Tryd.f3 [] false w args ∧ laidMetH Tryd.prog laid w) ∧ sizedMet enc Tryd.prog Tryd.f3 (OpenSpec.ofChange Rows.embedIsSpec) false w args)
      (Rows.embedIsSpec.post enc Tryd.prog Tryd.f3 false true false false) := by
  refine returnsInHanded_of_change_and (C := Tryd.checked) (X := fun w _ => laidMetH Tryd.prog laid w) (fun _ _ _ hh h => h.of_heap hh) own started (by kernel_rfl) Tryd.func3
    (ChangeSpec.witness_at (enc := enc) (C := Tryd.checked) (os := os) (X := fun w _ => laidMetH Tryd.prog laid w) false (laidWorld os) #[.agg #[.int .i64 0, .int .i64 0, .int .i64 0, .int .i64 0, .int .i64 0, .int .i64 0, .int .i64 0, .int .i64 0], .int .i64 0, .int .i64 0, .agg #[.int .i64 0, .int .i64 0, .int .i64 0, .int .i64 0, .int .i64 0, .int .i64 0, .int .i64 0, .int .i64 0]] 8 rfl (by kernel_rfl) (by kernel_rfl) (by kernel_rfl) (by kernel_rfl) (by kernel_rfl) (laidWorld_met os _)) ?_
  intro W base args ds gs before hval0 hW _ _ hL _
  have hval : ∀ (j : Nat) t v, Tryd.f3.params[j]? = some t → args[j]? = some v → Value.okWide Tryd.prog W .any base t v := hval0
  have hW' := hW
  obtain ⟨p, q, hA0, hV0, rfl, hfz, hnd⟩ := hW
  have hA : DataW.TrodAll enc Tryd.prog W 0 (fun _ => true) true Tryd.f3.params.toList args.toList ds p := hA0
  have hV : DataW.TrodVars enc Tryd.prog W (fun _ => true) [] gs q := hV0
  have hg := handle_of_laid hL
  rw [Tryd.params3] at hA hval
  obtain ⟨v0, vs0, d0, ds0, p0, q0, hargs, rfl, rfl, h0, r0⟩ := trodAll_cons hA
  obtain ⟨v1, vs1, d1, ds1, p1, q1, rfl, rfl, rfl, h1, r1⟩ := trodAll_cons r0
  obtain ⟨v2, vs2, d2, ds2, p2, q2, rfl, rfl, rfl, h2, r2⟩ := trodAll_cons r1
  obtain ⟨v3, vs3, d3, ds3, p3, q3, rfl, rfl, rfl, h3, r3⟩ := trodAll_cons r2
  obtain ⟨rfl, rfl, rfl⟩ := trodAll_nil r3
  obtain rfl : args = #[v0, v1, v2, v3] := by cases args; simp_all
  obtain ⟨rfl, rfl⟩ := vars_nil hV
  have lt0 : ∀ x ∈ p0, x.block < W.heap.size := by obtain ⟨m, hm⟩ := h0; exact DataW.trod_lt m _ _ _ hm
  have k0 := h0
  obtain ⟨s0, rfl, w0⟩ := open_six (hval 0 23 v0 rfl rfl) h0
  have lt1 : ∀ x ∈ p1, x.block < W.heap.size := by obtain ⟨m, hm⟩ := h1; exact DataW.trod_lt m _ _ _ hm
  have k1 := h1
  obtain ⟨x1, rfl, _, _, w1'⟩ := open_int Tryd.underlying3 (hval 1 3 v1 rfl rfl) h1
  have w1 : IsInt x1 := wf_i64 w1'
  have lt2 : ∀ x ∈ p2, x.block < W.heap.size := by obtain ⟨m, hm⟩ := h2; exact DataW.trod_lt m _ _ _ hm
  have k2 := h2
  obtain ⟨x2, rfl, _, _, w2'⟩ := open_int Tryd.underlying3 (hval 2 3 v2 rfl rfl) h2
  have w2 : IsInt x2 := wf_i64 w2'
  have lt3 : ∀ x ∈ p3, x.block < W.heap.size := by obtain ⟨m, hm⟩ := h3; exact DataW.trod_lt m _ _ _ hm
  have k3 := h3
  obtain ⟨s3, rfl, w3⟩ := open_six (hval 3 23 v3 rfl rfl) h3
  clear hA0 hval0
  refine (walk s0 x1 x2 s3 W hg w0 w1 w2 w3).mono fun e W' ⟨he, bel⟩ => ?_
  subst he
  exact ⟨_, rfl, _, _, _, [], _, [], hW', trodAll_mk1 (shut_bool Tryd.underlying4 _), (trodAll_cons_mk (Below.trod laidOut (by kernel_rfl) (of_decide_eq_true (by kernel_rfl)) k0 bel lt0) (trodAll_cons_mk (Below.trod laidOut (by kernel_rfl) (of_decide_eq_true (by kernel_rfl)) k1 bel lt1) (trodAll_cons_mk (Below.trod laidOut (by kernel_rfl) (of_decide_eq_true (by kernel_rfl)) k2 bel lt2) (trodAll_cons_mk (Below.trod laidOut (by kernel_rfl) (of_decide_eq_true (by kernel_rfl)) k3 bel lt3) trodAll_mk0)))), rfl, bel.frame _, fun h => by cases h⟩

theorem over : Rows.embedIsRow.holds Tryd.pinned (OpenSpec.ofChange Rows.embedIsSpec) :=
  OpenClaim.holds_of_wide 3 Tryd.f3 rfl rfl rfl rfl rfl rfl rfl ⟨rfl, rfl, rfl, rfl, rfl⟩ rfl rfl rfl rfl rfl (by kernel_rfl) Tryd.func3 (by kernel_rfl)
    (of_decide_eq_true (by kernel_rfl)) (by unfold Func.isWrapper; first | (rw [if_pos (by decide +kernel)]; kernel_rfl) | (rw [if_neg (by decide +kernel)]; exact ⟨rfl, rfl⟩))
    (fun os started H enc _ => lifted os started H enc)

/-- THE STATEMENT. -/
theorem proved : Rows.EmbedIsCardSaid :=
  Claim7.holds_tied_plain_at .later [] _ _ _ _
    over (fun _ h => by cases h) (by kernel_rfl) (fun _ h => by cases h) embedIs_row_tie rfl ⟨rfl, rfl⟩ (by kernel_rfl) rfl
    (fun f fn hf hfn => by
      obtain rfl : f = 3 := Option.some.inj ((show Tryd.prog.funcNamed "gangplank/gangplanklaw1.EmbedIs" = some 3 by kernel_rfl).symm.trans hf) |>.symm
      obtain rfl : fn = Tryd.f3 := (Option.some.inj (Tryd.func3.symm.trans hfn)).symm
      exact ⟨by kernel_rfl, fun j t ht => by
        rw [Tryd.params3] at ht
        have hall : ((#[23, 3, 3, 23] : Array Nat).all fun t => !Tryd.prog.wantsStandIn t) = true := by kernel_rfl
        have := Array.all_eq_true'.1 hall t (Array.mem_of_getElem? ht)
        show Tryd.prog.wantsStandIn t = false
        simpa using this⟩)
    (by kernel_rfl)
#print axioms proved
end Go.Proofs.YtkjchddidpjjmaaDoor.embedIs
