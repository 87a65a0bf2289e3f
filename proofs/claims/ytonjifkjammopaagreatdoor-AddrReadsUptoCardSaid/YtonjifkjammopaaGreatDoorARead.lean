/- The walk of the law AddrReads, of texts of at most 1048576 bytes. Conditions: the library's tables, sentinels and the handle hold what they hold. -/
import Derived.Test.YtonjifkjammopaaGreatDoorARU
import Derived.Test.YtonjifkjammopaaGreatDoorSame
import Derived.Test.YtonjifkjammopaaGreatDoorStarts
import Derived.Test.YtonjifkjammopaaGreatDoorSixEq
import Derived.Test.YtonjifkjammopaaGreatDoorStr
import Derived.Deep.DeepCutAuto
namespace Go.Proofs.YtonjifkjammopaaGreatDoor
open Go.RowKit
theorem sixf_u (s : Six) (w : World) : Calls Tryz.prog 4 #[s.v] w fun e w' => e = .returned (.int .i64 (pE s)) ∧ Ext w w' := sixFault_any s w
theorem pE_zero {s : Six} (h : pE s = 0) : okS s = true := by
  unfold pE at h
  split at h
  · assumption
  · cases h
theorem pE_ne {s : Six} (h : ¬ pE s = 0) : okS s = false := by
  unfold pE at h
  cases hs : okS s
  · rfl
  · rw [hs] at h; exact absurd rfl h
set_option maxRecDepth 100000 in
set_option maxHeartbeats 4000000 in
theorem addrReads_any (a p : Six) (s t : ByteArray) (n k : Int) (w : World) (T : Tabs w) (hH : Handle w) (hs : s.size ≤ 1048576) (ht : t.size ≤ 1048576) :
    Calls Tryz.prog 3 #[a.v, .string s, .int .i64 n, .string t, p.v, .int .i64 k] w fun e w' => e = .returned (.bool true) ∧ Ext w w' := by
  have KA := (Blk.new w 23 a.cells).alloc (.cells p.cells 23)
  have KP := Blk.at (n := w.heap.size + 1) (w.alloc (.cells a.cells 23)) 23 p.cells (by simp)
  have E0 := ((Ext.refl w).alloc (.cells a.cells 23)).alloc (.cells p.cells 23)
  have HT := Lib.hid T
  have HH := Lib.hid hH
  clear T hH
  go_enter Tryz.func3, Tryz.ntmps3
  go_upto_region 1 with (fail)
  refine at_worldE (fun W => Ext w W ∧ Blk W w.heap.size 23 a.cells ∧ Blk W (w.heap.size + 1) 23 p.cells) ⟨E0, KA, KP⟩ ?_
  clear E0 KA KP
  rintro W0 ⟨E0, KA, KP⟩
  have la := KA.six0
  go_wp2_with ((apply load_by rfl _ _ rfl _ rfl); (focus (with_reducible assumption)))
  refine (sixf_u a W0).mono ?_
  rintro e W1 ⟨rfl, q1⟩
  have E1 := E0.trans q1
  have KA1 := KA.ext q1
  have KP1 := KP.ext q1
  clear E0 KA KP q1 la
  obtain ⟨E, hE⟩ : ∃ E, pE a = E := ⟨_, rfl⟩
  rw [hE]
  have HE := Lib.hid hE
  clear hE
  obtain ⟨U, hU⟩ : ∃ U, pU a = U := ⟨_, rfl⟩
  obtain ⟨V, hV⟩ : ∃ V, strOfNums (pB a) = V := ⟨_, rfl⟩
  have HU := Lib.hid hU
  have HV := Lib.hid hV
  clear hU hV
  go_upto_if 31 with (fail)
  go_cut [14, 15] (fun v14 v15 wc => (Ext w wc ∧ Blk wc w.heap.size 23 a.cells ∧ Blk wc (w.heap.size + 1) 23 p.cells) ∧ v14 = .string U ∧ v15 = .string V)
  case first =>
    by_cases hz : E = 0
    case neg =>
      have hok := pE_ne (show ¬ pE a = 0 by rw [HE.out]; exact hz)
      have hU : U = ⟨#[]⟩ := by rw [← HU.out]; unfold pU; rw [hok]; rfl
      have hV : V = ⟨#[]⟩ := by rw [← HV.out]; unfold pB; rw [hok]; rfl
      have hzb : (E == 0) = false := by simpa using hz
      clear hz hok
      go_wp2_with fail
      go_meet
      exact ⟨⟨E1, KA1, KP1⟩, by rw [hU], by rw [hV]⟩
    have hok := pE_zero (show pE a = 0 by rw [HE.out]; exact hz)
    have hU : txtB (Pl.textL a.nl) = U := by rw [← HU.out]; unfold pU; rw [hok]; rfl
    have hV : strOfNums (Pl.two a.l) = V := by rw [← HV.out]; unfold pB; rw [hok]; rfl
    have hzb : (E == 0) = true := by simpa using hz
    have HX := Lib.hid (rsixtext_any a W1 hok)
    have HB := Lib.hid (fun W => bytesOf_any a W hok)
    have la := KA1.six0
    clear hz hok
    go_wp2_with ((apply load_by rfl _ _ rfl _ rfl); (focus (with_reducible assumption)))
    refine HX.out.mono ?_
    rintro e W2 ⟨rfl, q2⟩
    rw [hU]
    have E2 := E1.trans q2
    have KA2 := KA1.ext q2
    have KP2 := KP1.ext q2
    clear E1 KA1 KP1 q2 la
    have la := KA2.six0
    go_wp2_with ((apply load_by rfl _ _ rfl _ rfl); (focus (with_reducible assumption)))
    refine (HB.out _).mono ?_
    rintro e W3 ⟨v, rfl, o3, q3⟩
    obtain ⟨av, nv, cv, rfl, _, r3⟩ := o3.read
    have k3 := conv_str (c := cv) r3
    rw [hV] at k3
    have E3 := E2.trans q3
    have KA3 := KA2.ext q3
    have KP3 := KP2.ext q3
    clear E2 KA2 KP2 q3 la o3 r3
    go_wp2_with fail
    go_meet
    exact ⟨⟨E3, KA3, KP3⟩, rfl, rfl⟩
  clear E1 KA1 KP1
  obtain ⟨⟨E1, KA1, KP1⟩, rfl, rfl⟩ := hcut
  have la := KA1.six0
  go_wp2_with ((apply load_by rfl _ _ rfl _ rfl); (focus (with_reducible assumption)))
  refine (check_u a _).mono ?_
  rintro e W2 ⟨rfl, q2⟩
  rw [HE.out]
  have E2 := E1.trans q2
  have KA2 := KA1.ext q2
  have KP2 := KP1.ext q2
  clear E1 KA1 KP1 q2 la
  go_wp2_with fail
  refine (err_same E _ (HH.out.below E2)).mono ?_
  rintro e W3 ⟨rfl, q3⟩
  have E3 := E2.trans q3
  have KA3 := KA2.ext q3
  have KP3 := KP2.ext q3
  clear E2 KA2 KP2 q3
  have la := KA3.six0
  go_wp2_with ((apply load_by rfl _ _ rfl _ rfl); (focus (with_reducible assumption)))
  refine (print_u a _ (HT.out.ext E3)).mono ?_
  rintro e W4 ⟨rfl, q4⟩
  rw [HE.out, HU.out]
  have E4 := E3.trans q4
  have KA4 := KA3.ext q4
  have KP4 := KP3.ext q4
  clear E3 KA3 KP3 q4 la
  go_wp2_with fail
  refine (err_same E _ (HH.out.below E4)).mono ?_
  rintro e W5 ⟨rfl, q5⟩
  have E5 := E4.trans q5
  have KA5 := KA4.ext q5
  have KP5 := KP4.ext q5
  clear E4 KA4 KP4 q5
  have la := KA5.six0
  go_wp2_with ((apply load_by rfl _ _ rfl _ rfl); (focus (with_reducible assumption)))
  refine (bytes_u a _).mono ?_
  rintro e W6 ⟨v, rfl, o6, q6⟩
  rw [HE.out]
  have E6 := E5.trans q6
  have KA6 := KA5.ext q6
  have KP6 := KP5.ext q6
  clear E5 KA5 KP5 q6 la
  obtain ⟨av, nv, cv, rfl, _, r6⟩ := o6.read
  have HR := Lib.hid r6
  clear o6 r6
  go_wp2_with fail
  refine (err_same E _ (HH.out.below E6)).mono ?_
  rintro e W7 ⟨rfl, q7⟩
  have E7 := E6.trans q7
  have KA7 := KA6.ext q7
  have KP7 := KP6.ext q7
  have k7 := conv_str (c := cv) (HR.out.ext q7)
  rw [HV.out] at k7
  clear E6 KA6 KP6 q7 HR
  go_upto_if 79 with (fail)
  obtain ⟨F, hF⟩ : ∃ F : Int, F = if E = 0 then pE p else E := ⟨_, rfl⟩
  have HF := Lib.hid hF
  clear hF
  go_cut [13] (fun v wc => (Ext w wc ∧ Blk wc w.heap.size 23 a.cells ∧ Blk wc (w.heap.size + 1) 23 p.cells) ∧ v = .int .i64 F)
  case first =>
    by_cases hz : E = 0
    case neg =>
      have hFE : F = E := by rw [HF.out, if_neg hz]
      have hzb : (E == 0) = false := by simpa using hz
      clear hz
      go_wp2_with fail
      go_meet
      exact ⟨⟨E7, KA7, KP7⟩, by rw [hFE]⟩
    have hFE : pE p = F := by rw [HF.out, if_pos hz]
    have hzb : (E == 0) = true := by simpa using hz
    have lp := KP7.six0
    clear hz
    go_wp2_with ((apply load_by rfl _ _ rfl _ rfl); (focus (with_reducible assumption)))
    refine (sixf_u p W7).mono ?_
    rintro e W8 ⟨rfl, q8⟩
    rw [hFE]
    have E8 := E7.trans q8
    have KA8 := KA7.ext q8
    have KP8 := KP7.ext q8
    clear E7 KA7 KP7 q8 lp
    go_wp2_with fail
    go_meet
    exact ⟨⟨E8, KA8, KP8⟩, rfl⟩
  clear E7 KA7 KP7
  obtain ⟨⟨E7, KA7, KP7⟩, rfl⟩ := hcut
  obtain ⟨C, hC⟩ : ∃ C : Bool, C = ((F == 0) && (decide (k < 0) || decide (128 < k))) := ⟨_, rfl⟩
  have HC := Lib.hid hC
  clear hC
  go_upto_region 16 with (fail)
  go_cut [91] (fun v wc => (Ext w wc ∧ Blk wc w.heap.size 23 a.cells ∧ Blk wc (w.heap.size + 1) 23 p.cells) ∧ v = .bool C)
  case first =>
    have hE7 := Lib.hid (And.intro E7 (And.intro KA7 KP7))
    clear E7 KA7 KP7
    by_cases hz : F = 0
    case neg =>
      have hzb : (F == 0) = false := by simpa using hz
      have hCC : C = false := by rw [HC.out, hzb]; rfl
      clear hz
      go_wp2_with fail
      go_meet
      exact ⟨hE7.out, by rw [hCC]⟩
    have hzb : (F == 0) = true := by simpa using hz
    by_cases hk0 : k < 0
    · have hCC : C = true := by rw [HC.out, hzb, decide_eq_true hk0]; rfl
      clear hz
      go_wp2_with fail
      go_meet
      exact ⟨hE7.out, by rw [hCC]⟩
    · by_cases hk1 : 128 < k
      · have hCC : C = true := by rw [HC.out, hzb, decide_eq_true hk1]; simp
        clear hz
        go_wp2_with fail
        go_meet
        exact ⟨hE7.out, by rw [hCC]⟩
      · have hCC : C = false := by rw [HC.out, hzb, decide_eq_false hk0, decide_eq_false hk1]; rfl
        clear hz
        go_wp2_with fail
        go_meet
        exact ⟨hE7.out, by rw [hCC]⟩
  clear E7 KA7 KP7
  obtain ⟨⟨E7, KA7, KP7⟩, rfl⟩ := hcut
  have hI : Pl.inErr a p k = if C = true then 1 else F := by
    rw [HC.out, HF.out, ← HE.out]
    unfold Pl.inErr pE
    cases okS a
    · simp
    · cases okS p
      · simp
      · by_cases h0 : k < 0
        · simp [h0]; omega
        · by_cases h1 : 128 < k
          · simp [h1]
            try omega
          · simp [h0, h1]
            try omega
  obtain ⟨I, hII⟩ : ∃ I, Pl.inErr a p k = I := ⟨_, rfl⟩
  rw [hII] at hI
  have HI := Lib.hid hI
  have HII := Lib.hid hII
  clear hI hII
  go_upto_if 91 with (fail)
  go_cut [13] (fun v wc => (Ext w wc ∧ Blk wc w.heap.size 23 a.cells ∧ Blk wc (w.heap.size + 1) 23 p.cells) ∧ v = .int .i64 I)
  case first =>
    have hE7 := Lib.hid (And.intro E7 (And.intro KA7 KP7))
    clear E7 KA7 KP7
    cases C
    · have hIF : I = F := by rw [HI.out]; rfl
      go_wp2_with fail
      go_meet
      exact ⟨hE7.out, by rw [hIF]⟩
    · have hIF : I = 1 := by rw [HI.out]; rfl
      go_wp2_with fail
      go_meet
      exact ⟨hE7.out, by rw [hIF]⟩
  clear E7 KA7 KP7
  obtain ⟨⟨E7, KA7, KP7⟩, rfl⟩ := hcut
  have la := KA7.six0
  have lp := KP7.six0
  go_wp2_with ((apply load_by rfl _ _ rfl _ rfl); (focus (with_reducible assumption)))
  refine (in_any a p k _).mono ?_
  rintro e W8 ⟨rfl, q8⟩
  rw [HII.out]
  have E8 := E7.trans q8
  have KA8 := KA7.ext q8
  have KP8 := KP7.ext q8
  clear E7 KA7 KP7 q8 la lp
  obtain ⟨B, hB⟩ : ∃ B, Pl.inVal a p k = B := ⟨_, rfl⟩
  rw [hB]
  have HB := Lib.hid hB
  clear hB
  go_wp2_with fail
  refine (err_same I _ (HH.out.below E8)).mono ?_
  rintro e W9 ⟨rfl, q9⟩
  have E9 := E8.trans q9
  have KA9 := KA8.ext q9
  have KP9 := KP8.ext q9
  clear E8 KA8 KP8 q9
  go_upto_region 20 with (fail)
  go_cut [115] (fun v wc => (Ext w wc ∧ Blk wc w.heap.size 23 a.cells ∧ Blk wc (w.heap.size + 1) 23 p.cells) ∧ v = .bool false)
  case first =>
    by_cases hz : I = 0
    case neg =>
      have hzb : (I == 0) = false := by simpa using hz
      have hBf : B = false := by
        rw [← HB.out]
        unfold Pl.inVal
        rw [HII.out, decide_eq_false hz]
        rfl
      subst hBf
      have hE9 := Lib.hid (And.intro E9 (And.intro KA9 KP9))
      clear hz E9 KA9 KP9
      go_wp2_with fail
      go_meet
      exact ⟨hE9.out, rfl⟩
    have hzb : (I == 0) = true := by simpa using hz
    obtain ⟨ha, hp, hk0, hk1⟩ : okS a = true ∧ okS p = true ∧ 0 ≤ k ∧ k ≤ 128 := by
      have := HII.out
      unfold Pl.inErr at this
      split at this
      · assumption
      · omega
    obtain ⟨N, rfl⟩ := Int.eq_ofNat_of_zero_le hk0
    have hBN : Pl.inB a p N = B := by
      rw [← HB.out]
      unfold Pl.inVal
      rw [HII.out, hz, Int.toNat_natCast]
      simp
    have HST := Lib.hid (starts_any a p N W9 ha hp (by omega))
    have la := KA9.six0
    have lp := KP9.six0
    clear hz ha hp
    go_wp2_with ((apply load_by rfl _ _ rfl _ rfl); (focus (with_reducible assumption)))
    refine HST.out.mono ?_
    rintro e W10 ⟨rfl, q10⟩
    rw [hBN]
    have hE9 := Lib.hid (And.intro (E9.trans q10) (And.intro (KA9.ext q10) (KP9.ext q10)))
    clear E9 KA9 KP9 q10 la lp
    go_wp2_with fail
    go_meet
    exact ⟨hE9.out, by cases B <;> rfl⟩
  clear E9 KA9 KP9
  obtain ⟨⟨E9, _, _⟩, rfl⟩ := hcut
  obtain ⟨X, hX⟩ : ∃ X, pv s.data.toList = X := ⟨_, rfl⟩
  obtain ⟨Q, hQ⟩ : ∃ Q, pq s.data.toList = Q := ⟨_, rfl⟩
  have HR1 := Lib.hid (fun W => rsixof_u s W hs)
  have HR2 := Lib.hid (fun W TW => parse_u s W TW)
  rw [hX, hQ] at HR1 HR2
  clear hX hQ
  go_wp2_with fail
  refine (HR1.out _).mono ?_
  rintro e W10 ⟨rfl, q10⟩
  have E10 := E9.trans q10
  clear E9 q10
  have KZ := Blk.new W10 23 zc6
  have st := KZ.store (ty := 23) (cs := X.cells) rfl Tryz.size6 (by simp [Six.cells, Value.oneCell'])
  have KX := KZ.row X.cells
  have E11 := (E10.alloc (.cells zc6 23)).row (k := W10.heap.size) E10.size X.cells
  clear KZ E10
  go_upto_region 23 with (((apply store_by rfl _ _ _ rfl _ rfl); (focus (with_reducible assumption)); (focus rfl)))
  refine at_worldE (fun W => Ext w W ∧ Blk W W10.heap.size 23 X.cells) ⟨E11, KX⟩ ?_
  clear st E11 KX
  rintro W11 ⟨E11, KX⟩
  generalize W10.heap.size = g1 at *
  go_wp2_with fail
  refine (HR2.out _ (HT.out.ext E11)).mono ?_
  rintro e W12 ⟨rfl, q12⟩
  have E12 := E11.trans q12
  have KX2 := KX.ext q12
  clear E11 KX q12
  have hgl : g1 < W12.heap.size := KX2.lt
  have KZ := Blk.new W12 23 zc6
  have st := KZ.store (ty := 23) (cs := X.cells) rfl Tryz.size6 (by simp [Six.cells, Value.oneCell'])
  have KY := KZ.row X.cells
  have KX3 := (KX2.alloc (.cells zc6 23)).farRow (show g1 ≠ W12.heap.size by omega) X.cells
  have E13 := (E12.alloc (.cells zc6 23)).row (k := W12.heap.size) E12.size X.cells
  clear KZ E12 KX2
  go_upto_region 24 with (((apply store_by rfl _ _ _ rfl _ rfl); (focus (with_reducible assumption)); (focus rfl)))
  refine at_worldE (fun W => Ext w W ∧ Blk W g1 23 X.cells ∧ Blk W W12.heap.size 23 X.cells) ⟨E13, KX3, KY⟩ ?_
  clear st E13 KX3 KY
  rintro W13 ⟨E13, KX3, KY⟩
  generalize W12.heap.size = g2 at *
  go_wp2_with fail
  refine (err_same Q _ (HH.out.below E13)).mono ?_
  rintro e W14 ⟨rfl, q14⟩
  have E14 := E13.trans q14
  have lx := (KX3.ext q14).six0
  have ly := (KY.ext q14).six0
  have le : ∀ W, (Op.equalIn 10000 23 (.agg X.cells) (.agg X.cells)).run Tryz.prog W = .ok true W := fun W => six_same X W
  clear E13 KX3 KY q14
  obtain ⟨M, hM⟩ : ∃ M, e4 n = M := ⟨_, rfl⟩
  obtain ⟨P, hP⟩ : ∃ P, p4 n = P := ⟨_, rfl⟩
  have HM := Lib.hid (And.intro hM hP)
  clear hM hP
  go_upto_region 29 with (first | ((apply load_by rfl _ _ rfl _ rfl); (focus (with_reducible assumption))) | fail)
  clear lx ly le
  go_wp2_with fail
  refine (isFour_any n _).mono ?_
  rintro e W15 ⟨rfl, rfl⟩
  obtain ⟨b32, hb32⟩ : ∃ b, w32 n = b := ⟨_, rfl⟩
  rw [hb32]
  have HB32 := Lib.hid hb32
  clear hb32
  go_upto_if 138 with (fail)
  go_cut [13, 14] (fun v13 v14 wc => Ext w wc ∧ v13 = .int .i64 M ∧ v14 = .string P)
  case first =>
    cases b32
    · have h32 := HB32.out
      have hM : M = 1 := by rw [← HM.out.1]; unfold e4; rw [h32]; rfl
      have hP : P = ⟨#[]⟩ := by rw [← HM.out.2]; unfold p4; rw [h32]; rfl
      clear h32
      go_wp2_with fail
      go_meet
      exact ⟨E14, by rw [hM], by rw [hP]⟩
    · have h32 := HB32.out
      have hM : M = 0 := by rw [← HM.out.1]; unfold e4; rw [h32]; rfl
      have hP : txtB (text4 n.toNat) = P := by rw [← HM.out.2]; unfold p4; rw [h32]; rfl
      have hl := w32_lim h32
      obtain ⟨u, rfl⟩ := Int.eq_ofNat_of_zero_le hl.1
      rw [Int.toNat_natCast] at hP
      have HF4 := Lib.hid (fun W => rfourtext_any u (by omega) W)
      rw [hP] at HF4
      clear h32 hl
      go_wp2_with fail
      refine (HF4.out _).mono ?_
      rintro e W16 ⟨rfl, rfl⟩
      go_wp2_with fail
      go_meet
      exact ⟨E14, by rw [hM], rfl⟩
  clear E14
  obtain ⟨E14, rfl, rfl⟩ := hcut
  have HP4 := Lib.hid (fun W TW => print4_u n W TW)
  rw [HM.out.1, HM.out.2] at HP4
  go_wp2_with fail
  refine (HP4.out _ (HT.out.ext E14)).mono ?_
  rintro e W16 ⟨rfl, q16⟩
  have E16 := E14.trans q16
  clear E14 q16 HP4
  go_wp2_with fail
  refine (err_same M _ (HH.out.below E16)).mono ?_
  rintro e W17 ⟨rfl, q17⟩
  have E17 := E16.trans q17
  clear E16 q17
  obtain ⟨Y, hY⟩ : ∃ Y, fv t.data.toList = Y := ⟨_, rfl⟩
  obtain ⟨Z, hZ⟩ : ∃ Z, fq t.data.toList = Z := ⟨_, rfl⟩
  have HF1 := Lib.hid (fun W => rfour_u t W ht)
  have HF2 := Lib.hid (fun W TW => four_u t W TW ht)
  rw [hY, hZ] at HF1 HF2
  clear hY hZ
  go_wp2_with fail
  refine (HF1.out _).mono ?_
  rintro e W18 ⟨rfl, q18⟩
  have E18 := E17.trans q18
  clear E17 q18
  go_wp2_with fail
  refine (HF2.out _ (HT.out.ext E18)).mono ?_
  rintro e W19 ⟨rfl, q19⟩
  have E19 := E18.trans q19
  clear E18 q19
  go_wp2_with fail
  refine (err_same Z _ (HH.out.below E19)).mono ?_
  rintro e W20 ⟨rfl, q20⟩
  have E20 := E19.trans q20
  clear E19 q20
  go_wp2_with fail
  go_returns
  exact ⟨rfl, E20⟩
end Go.Proofs.YtonjifkjammopaaGreatDoor
