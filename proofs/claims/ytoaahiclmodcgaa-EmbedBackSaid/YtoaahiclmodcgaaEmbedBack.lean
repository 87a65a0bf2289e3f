/- WHAT GOES IN COMES OUT: a four in a prefix comes out again; it begins with the prefix; two are in one address only if they are one. Conditions: none beyond the law's own. -/
import Derived.Test.YtoaahiclmodcgaaEmbL
import Derived.Test.YtoaahiclmodcgaaOpen6
namespace Go.Proofs.Ytoaahiclmodcgaa
open Go.ChangeShapes Go.WideShapes Go.ChangeAt Go.RowKit
/-- A variable that a six is stored into. -/
theorem stored6 (W : World) (S : Six) : (Instr.storeAt 23 (.pointer (some ⟨W.heap.size, 0, none⟩)) (.agg S.cells)).run Try.prog (W.alloc (.cells zc6 23)) = .ok () ((W.alloc (.cells zc6 23)).setRow W.heap.size S.cells) ∧
    Ext W ((W.alloc (.cells zc6 23)).setRow W.heap.size S.cells) ∧ Blk ((W.alloc (.cells zc6 23)).setRow W.heap.size S.cells) W.heap.size 23 S.cells :=
  ⟨(Blk.new W _ _).store rfl Try.size6 (by simp [Six.cells, Value.oneCell']), ((Ext.refl W).alloc _).row (Nat.le_refl _) _, (Blk.new W _ _).row _⟩
set_option maxRecDepth 100000 in
set_option maxHeartbeats 4000000 in
theorem walk (p : Six) (n four other : Int) (w : World) (_ : p.Is) (_ : IsInt n) (_ : IsInt four) (_ : IsInt other) :
    Calls Try.prog 4 #[p.v, .int .i64 n, .int .i64 four, .int .i64 other] w fun e w' => e = .returned (.bool true) ∧ Below w.heap.size w w' := by
  have K0 := Blk.new w 23 p.cells
  have E0 := (Ext.refl w).alloc (.cells p.cells 23)
  have hI0 := fun W => into_any ⟨100, 65435, 0, 0, 0, 0, 0, 0⟩ 96 167772161 W
  simp only [Pl.into_fact.1, Pl.into_fact.2, erv_zero] at hI0
  have HI0 := Lib.hid hI0
  clear hI0
  go_enter Try.func4, Try.ntmps4
  go_wp2_with fail
  refine (HI0.out _).mono ?_
  rintro e W1 ⟨rfl, q1⟩
  have E1 := E0.trans q1
  have K1 := K0.ext q1
  clear E0 K0 q1
  obtain ⟨s2, q2, k2⟩ := stored6 W1 ⟨100, 65435, 0, 0, 0, 0, 2560, 1⟩
  have l2 : (Instr.loadAt 23 (.pointer (some ⟨W1.heap.size, 0, none⟩))).run Try.prog ((W1.alloc (.cells zc6 23)).setRow W1.heap.size (⟨100, 65435, 0, 0, 0, 0, 2560, 1⟩ : Six).cells) = .ok (.agg #[.int .i64 100, .int .i64 65435, .int .i64 0, .int .i64 0, .int .i64 0, .int .i64 0, .int .i64 2560, .int .i64 1]) _ := k2.six0
  have e2 := fun W => six_same ⟨100, 65435, 0, 0, 0, 0, 2560, 1⟩ W
  have E2 := E1.trans q2
  have K2 := K1.ext q2
  have l0 := K2.six0
  clear E1 K1 q2 k2
  unfold Six.cells at e2
  by_cases h1 : Pl.intoErr p n four = 0
  case neg =>
    have hI := fun W => into_any p n four W
    simp only [erv_ne h1] at hI
    have HI := Lib.hid hI
    clear hI
    go_wp2_with (first | ((apply store_by rfl _ _ _ rfl _ rfl); (focus (with_reducible assumption)); (focus rfl)) | ((apply load_by rfl _ _ rfl _ rfl); (focus (with_reducible assumption))))
    refine (HI.out _).mono ?_
    rintro e W3 ⟨rfl, q3⟩
    have E3 := E2.trans q3
    obtain ⟨s4, q4, k4⟩ := stored6 W3 (Pl.into p n four)
    have E4 := E3.trans q4
    clear s2 l2 e2 l0 K2 E2 E3 q3 q4 k4
    generalize Pl.intoErr p n four = q at *
    unfold errv
    go_wp2_with ((apply store_by rfl _ _ _ rfl _ rfl); (focus (with_reducible assumption)); (focus rfl))
    go_ret
    exact ⟨rfl, E4⟩
  have hI := fun W => into_any p n four W
  simp only [h1, erv_zero] at hI
  have HI := Lib.hid hI
  have hO := fun W => out_any (Pl.into p n four) n W
  simp only [Pl.out_into h1, erv_zero] at hO
  have HO := Lib.hid hO
  have hN := fun W => in_any (Pl.into p n four) p n W
  simp only [Pl.in_into h1, erv_zero] at hN
  have HN := Lib.hid hN
  have HONE := Lib.hid (fun h2 => Pl.into_one (g := other) h1 h2)
  have H1 := Lib.hid h1
  clear hI hO hN h1
  generalize Pl.into p n four = a at *
  go_wp2_with (first | ((apply store_by rfl _ _ _ rfl _ rfl); (focus (with_reducible assumption)); (focus rfl)) | ((apply load_by rfl _ _ rfl _ rfl); (focus (with_reducible assumption))))
  refine (HI.out _).mono ?_
  rintro e W3 ⟨rfl, q3⟩
  have E3 := E2.trans q3
  obtain ⟨s4, q4, k4⟩ := stored6 W3 a
  have E4 := E3.trans q4
  have K4 := (K2.ext q3).ext q4
  have l0' := K4.six0
  have l4 := k4.six0
  clear s2 l2 e2 l0 K2 E2 E3 q3 q4
  go_wp2_with (first | ((apply store_by rfl _ _ _ rfl _ rfl); (focus (with_reducible assumption)); (focus rfl)) | ((apply load_by rfl _ _ rfl _ rfl); (focus (with_reducible assumption))))
  refine at_world (fun W => Ext w W ∧ Blk W w.heap.size 23 p.cells ∧ Blk W W3.heap.size 23 a.cells) ⟨E4, K4, k4⟩ ?_
  clear s4 E4 K4 k4 l0' l4
  rintro W4 ⟨E4, K4, k4⟩
  refine (HO.out _).mono ?_
  rintro e W5 ⟨rfl, q5⟩
  have E5 := E4.trans q5
  have K5 := K4.ext q5
  have k5 := k4.ext q5
  have l0 := K5.six0
  have l4 := k5.six0
  clear E4 K4 k4 q5
  go_wp2_with (first | ((apply store_by rfl _ _ _ rfl _ rfl); (focus (with_reducible assumption)); (focus rfl)) | ((apply load_by rfl _ _ rfl _ rfl); (focus (with_reducible assumption))))
  refine (HN.out _).mono ?_
  rintro e W6 ⟨rfl, q6⟩
  have E6 := E5.trans q6
  have K6 := K5.ext q6
  have k6 := k5.ext q6
  have l0 := K6.six0
  have l4 := k6.six0
  clear E5 K5 k5 q6
  have hff : (four != four) = false := by simp
  by_cases h2 : Pl.intoErr p n other = 0
  case neg =>
    have hI := fun W => into_any p n other W
    simp only [erv_ne h2] at hI
    have HI := Lib.hid hI
    clear hI
    go_wp2_with (first | ((apply store_by rfl _ _ _ rfl _ rfl); (focus (with_reducible assumption)); (focus rfl)) | ((apply load_by rfl _ _ rfl _ rfl); (focus (with_reducible assumption))))
    refine (HI.out _).mono ?_
    rintro e W7 ⟨rfl, q7⟩
    have E7 := E6.trans q7
    obtain ⟨s8, q8, k8⟩ := stored6 W7 (Pl.into p n other)
    have E8 := E7.trans q8
    clear l0 l4 K6 k6 E6 E7 q7 q8 k8
    generalize Pl.intoErr p n other = q at *
    unfold errv
    go_wp2_with ((apply store_by rfl _ _ _ rfl _ rfl); (focus (with_reducible assumption)); (focus rfl))
    go_ret
    exact ⟨rfl, E8⟩
  have hI := fun W => into_any p n other W
  simp only [h2, erv_zero] at hI
  have HI := Lib.hid hI
  have hE := HONE.out h2
  clear hI h2
  generalize Pl.into p n other = b at *
  go_wp2_with (first | ((apply store_by rfl _ _ _ rfl _ rfl); (focus (with_reducible assumption)); (focus rfl)) | ((apply load_by rfl _ _ rfl _ rfl); (focus (with_reducible assumption))))
  refine (HI.out _).mono ?_
  rintro e W7 ⟨rfl, q7⟩
  have E7 := E6.trans q7
  obtain ⟨s8, q8, k8⟩ := stored6 W7 b
  have E8 := E7.trans q8
  have l4' := ((k6.ext q7).ext q8).six0
  have l8 := k8.six0
  have e8 := fun W => run_sixEq a b 9998 W
  rw [hE] at e8
  have e9 : ((four == other) == (four == other)) = true := by simp
  have HE8 := Lib.hid E8
  clear l0 l4 K6 k6 E6 E7 E8 q7 q8 k8 hE
  generalize hfo : (four == other) = fo at *
  have HFO := Lib.hid hfo
  clear hfo
  go_wp2_with (first | ((apply store_by rfl _ _ _ rfl _ rfl); (focus (with_reducible assumption)); (focus rfl)) | ((apply load_by rfl _ _ rfl _ rfl); (focus (with_reducible assumption))))
  go_ret
  refine ⟨ret_bool (a := (fo == (four == other))) ?_, HE8.out⟩
  rw [HFO.out]
  simp
set_option maxRecDepth 100000 in
theorem lifted (os : Os) (started : os.Started) (H : Type) (enc : TypeId × Value → H) :
    ReturnsInHanded {} Try.checked os 4 .any (Rows.embedBackSpec.pre6 enc Try.prog Try.f4 Rows.embedBackRow.domain false) (Rows.embedBackSpec.post enc Try.prog Try.f4 false true false false) := by
  refine returnsInHanded_of_change (C := Try.checked) own started (by kernel_rfl) Try.func4
    (ChangeSpec.witness6 (enc := enc) (C := Try.checked) false ⟨#[], #[.agg #[.int .i64 0, .int .i64 0, .int .i64 0, .int .i64 0, .int .i64 0, .int .i64 0, .int .i64 0, .int .i64 0], .int .i64 0, .int .i64 0, .int .i64 0], []⟩ 8 (by kernel_rfl) (by kernel_rfl) (by kernel_rfl) (by kernel_rfl)) ?_
  intro W base args ds gs before hval0 hW hcnd _
  have hval : ∀ (j : Nat) t v, Try.f4.params[j]? = some t → args[j]? = some v → Value.okWide Try.prog W .any base t v := hval0
  have hW' := hW
  obtain ⟨p, q, hA0, hV, rfl, hfz, hnd⟩ := hW
  have hA : DataW.TrodAll enc Try.prog W 0 (fun _ => true) true Try.f4.params.toList args.toList ds p := hA0
  rw [Try.params4] at hA hval
  obtain ⟨v0, vs0, d0, ds0, p0, q0, hargs, rfl, rfl, h0, r0⟩ := trodAll_cons hA
  obtain ⟨v1, vs1, d1, ds1, p1, q1, rfl, rfl, rfl, h1, r1⟩ := trodAll_cons r0
  obtain ⟨v2, vs2, d2, ds2, p2, q2, rfl, rfl, rfl, h2, r2⟩ := trodAll_cons r1
  obtain ⟨v3, vs3, d3, ds3, p3, q3, rfl, rfl, rfl, h3, r3⟩ := trodAll_cons r2
  obtain ⟨rfl, rfl, rfl⟩ := trodAll_nil r3
  obtain rfl : args = #[v0, v1, v2, v3] := by cases args; simp_all
  obtain ⟨rfl, rfl⟩ := trodVars_none hV
  have lt0 : ∀ x ∈ p0, x.block < W.heap.size := by obtain ⟨m, hm⟩ := h0; exact DataW.trod_lt m _ _ _ hm
  have k0 := h0
  obtain ⟨s0, rfl, w0⟩ := open_six (hval 0 23 v0 rfl rfl) h0
  have lt1 : ∀ x ∈ p1, x.block < W.heap.size := by obtain ⟨m, hm⟩ := h1; exact DataW.trod_lt m _ _ _ hm
  have k1 := h1
  obtain ⟨x1, rfl, _, _, w1'⟩ := open_int Try.underlying3 (hval 1 3 v1 rfl rfl) h1
  have w1 : IsInt x1 := wf_i64 w1'
  have lt2 : ∀ x ∈ p2, x.block < W.heap.size := by obtain ⟨m, hm⟩ := h2; exact DataW.trod_lt m _ _ _ hm
  have k2 := h2
  obtain ⟨x2, rfl, _, _, w2'⟩ := open_int Try.underlying3 (hval 2 3 v2 rfl rfl) h2
  have w2 : IsInt x2 := wf_i64 w2'
  have lt3 : ∀ x ∈ p3, x.block < W.heap.size := by obtain ⟨m, hm⟩ := h3; exact DataW.trod_lt m _ _ _ hm
  have k3 := h3
  obtain ⟨x3, rfl, _, _, w3'⟩ := open_int Try.underlying3 (hval 3 3 v3 rfl rfl) h3
  have w3 : IsInt x3 := wf_i64 w3'
  clear hA0 hval0
  refine (walk s0 x1 x2 x3 W w0 w1 w2 w3).mono fun e W' ⟨he, bel⟩ => ?_
  subst he
  exact ⟨_, rfl, _, _, _, [], _, [], hW', trodAll_mk1 (shut_bool Try.underlying4 _), (trodAll_cons_mk (Below.trod laidOut (by kernel_rfl) (of_decide_eq_true (by kernel_rfl)) k0 bel lt0) (trodAll_cons_mk (Below.trod laidOut (by kernel_rfl) (of_decide_eq_true (by kernel_rfl)) k1 bel lt1) (trodAll_cons_mk (Below.trod laidOut (by kernel_rfl) (of_decide_eq_true (by kernel_rfl)) k2 bel lt2) (trodAll_cons_mk (Below.trod laidOut (by kernel_rfl) (of_decide_eq_true (by kernel_rfl)) k3 bel lt3) trodAll_mk0)))), rfl, bel.frame _, fun h => by cases h⟩

theorem over : Rows.embedBackRow.holds Try.pinned (OpenSpec.ofChange Rows.embedBackSpec) :=
  OpenClaim.holds_of_wide 4 Try.f4 rfl rfl rfl rfl rfl rfl rfl ⟨rfl, rfl, rfl, rfl, rfl⟩ rfl rfl rfl rfl rfl (by kernel_rfl) Try.func4 (by kernel_rfl)
    (of_decide_eq_true (by kernel_rfl)) (by unfold Func.isWrapper; first | (rw [if_pos (by decide +kernel)]; kernel_rfl) | (rw [if_neg (by decide +kernel)]; exact ⟨rfl, rfl⟩))
    (fun os started H enc _ => lifted os started H enc)

/-- THE STATEMENT. -/
theorem proved : Rows.EmbedBackSaid := over
#print axioms proved
end Go.Proofs.Ytoaahiclmodcgaa
