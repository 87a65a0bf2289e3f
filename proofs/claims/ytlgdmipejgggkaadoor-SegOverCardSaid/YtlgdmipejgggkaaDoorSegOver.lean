/- The law SegOver: what stands over a segment is what the document says, of any addresses. Conditions: the row's own: errors.errorType holds its handle (tied). -/
import Derived.Test.YtlgdmipejgggkaaDoorFrameD
import Derived.Test.YtlgdmipejgggkaaDoorOpen6
import Derived.Test.YtlgdmipejgggkaaDoorOver6
import Derived.Test.YtlgdmipejgggkaaDoorTie
import Derived.Test.YtlgdmipejgggkaaDoorCards
import Derived.SevenTiedAt
namespace Go.Proofs.YtlgdmipejgggkaaDoor.segOver
open Go.ChangeShapes Go.WideShapes Go.ChangeAt Go.RowKit

set_option maxRecDepth 100000 in
set_option maxHeartbeats 4000000 in
theorem walk (x0 x1 : Int) (s2 s3 : Six) (x4 x5 : Int) (w : World) (hg : Handle w) (_ : IsInt x0) (_ : IsInt x1) (_ : s2.Is) (_ : s3.Is) (_ : IsInt x4) (_ : IsInt x5) :
    Calls Tryd.prog 7 #[.int .i64 x0, .int .i64 x1, s2.v, s3.v, .int .i64 x4, .int .i64 x5] w fun e w' => e = .returned (.bool true) ∧ Below w.heap.size w w' := by
  have HG := Lib.hid hg
  have KS := (Blk.new w 37 s2.cells).alloc (.cells s3.cells 37)
  have KD := Blk.new (w.alloc (.cells s2.cells 37)) 37 s3.cells
  simp only [World.size_alloc] at KD
  have E0 := ((Ext.refl w).alloc (.cells s2.cells 37)).alloc (.cells s3.cells 37)
  unfold Six.v
  clear hg
  go_enter Tryd.func7, Tryd.ntmps7
  go_wp2_with fail
  refine (rover4_any x0 x1 x4 x5 _).mono ?_
  rintro e W1 ⟨rfl, q1⟩
  go_wp2_with fail
  refine (over4_any x0 x1 x4 x5 _).mono ?_
  rintro e W2 ⟨rfl, q2⟩
  have E2 := (E0.trans q1).trans q2
  have KS2 := (KS.ext q1).ext q2
  have KD2 := (KD.ext q1).ext q2
  have HE := Lib.hid (err_same (eO (ok4 x0 x1 x4 x5)))
  generalize erv (eO (ok4 x0 x1 x4 x5)) = ev at *
  generalize eO (ok4 x0 x1 x4 x5) = E at *
  generalize bO (ok4 x0 x1 x4 x5) (val4 x0 x1 x4 x5) = V at *
  clear E0 q1 q2 KS KD
  go_wp2_with fail
  refine (HE.out W2 (HG.out.below E2)).mono ?_
  clear HE
  rintro e W3 ⟨rfl, b3⟩
  have q3 : Ext W2 W3 := b3
  have E3 := E2.trans q3
  have KS3 := KS2.ext q3
  have KD3 := KD2.ext q3
  have ls := KS3.six0
  have ld := KD3.six0
  clear E2 KS2 KD2 b3
  go_wp2_with ((apply load_by rfl _ _ rfl _ rfl); (focus (with_reducible assumption)))
  refine (rover6_any s2 s3 x4 x5 _).mono ?_
  rintro e W4 ⟨rfl, q4⟩
  have E4 := E3.trans q4
  have KS4 := KS3.ext q4
  have KD4 := KD3.ext q4
  clear ls ld
  have ls := KS4.six0
  have ld := KD4.six0
  clear E3 KS3 KD3
  go_wp2_with ((apply load_by rfl _ _ rfl _ rfl); (focus (with_reducible assumption)))
  refine (over6_any s2 s3 x4 x5 _).mono ?_
  rintro e W5 ⟨rfl, q5⟩
  have E5 := E4.trans q5
  have HE := Lib.hid (err_same (eO (ok6 s2 s3 x4 x5)))
  generalize erv (eO (ok6 s2 s3 x4 x5)) = ev2 at *
  generalize eO (ok6 s2 s3 x4 x5) = E' at *
  generalize bO (ok6 s2 s3 x4 x5) (val6 s2 s3 x4 x5) = V' at *
  clear ls ld E4 KS4 KD4
  go_wp2_with fail
  refine (HE.out W5 (HG.out.below E5)).mono ?_
  clear HE
  rintro e W6 ⟨rfl, b6⟩
  have E6 : Ext w W6 := Ext.trans E5 b6
  go_wp2_with fail
  go_ret
  exact ⟨rfl, E6⟩

set_option maxRecDepth 100000 in
theorem lifted (os : Os) (started : os.Started) (H : Type) (enc : TypeId × Value → H) :
    ReturnsInHanded {} Tryd.checked os 7 .any (fun w args => (Rows.segOverSpec.pre enc Tryd.prog Tryd.f7 [] false w args ∧ laidMetH Tryd.prog laid w) ∧ sizedMet enc Tryd.prog Tryd.f7 (OpenSpec.ofChange Rows.segOverSpec) false w args)
      (Rows.segOverSpec.post enc Tryd.prog Tryd.f7 false true false false) := by
  refine returnsInHanded_of_change_and (C := Tryd.checked) (X := fun w _ => laidMetH Tryd.prog laid w) (fun _ _ _ hh h => h.of_heap hh) own started (by kernel_rfl) Tryd.func7
    (ChangeSpec.witness_at (enc := enc) (C := Tryd.checked) (os := os) (X := fun w _ => laidMetH Tryd.prog laid w) false (laidWorld os) #[.int .i64 0, .int .i64 0, .agg #[.int .i64 0, .int .i64 0, .int .i64 0, .int .i64 0, .int .i64 0, .int .i64 0, .int .i64 0, .int .i64 0], .agg #[.int .i64 0, .int .i64 0, .int .i64 0, .int .i64 0, .int .i64 0, .int .i64 0, .int .i64 0, .int .i64 0], .int .i64 0, .int .i64 0] 8 rfl (by kernel_rfl) (by kernel_rfl) (by kernel_rfl) (by kernel_rfl) (by kernel_rfl) (laidWorld_met os _)) ?_
  intro W base args ds gs before hval0 hW _ _ hL _
  have hval : ∀ (j : Nat) t v, Tryd.f7.params[j]? = some t → args[j]? = some v → Value.okWide Tryd.prog W .any base t v := hval0
  have hW' := hW
  obtain ⟨p, q, hA0, hV0, rfl, hfz, hnd⟩ := hW
  have hA : DataW.TrodAll enc Tryd.prog W 0 (fun _ => true) true Tryd.f7.params.toList args.toList ds p := hA0
  have hV : DataW.TrodVars enc Tryd.prog W (fun _ => true) [] gs q := hV0
  have hg := handle_of_laid hL
  rw [Tryd.params7] at hA hval
  obtain ⟨v0, vs0, d0, ds0, p0, q0, hargs, rfl, rfl, h0, r0⟩ := trodAll_cons hA
  obtain ⟨v1, vs1, d1, ds1, p1, q1, rfl, rfl, rfl, h1, r1⟩ := trodAll_cons r0
  obtain ⟨v2, vs2, d2, ds2, p2, q2, rfl, rfl, rfl, h2, r2⟩ := trodAll_cons r1
  obtain ⟨v3, vs3, d3, ds3, p3, q3, rfl, rfl, rfl, h3, r3⟩ := trodAll_cons r2
  obtain ⟨v4, vs4, d4, ds4, p4, q4, rfl, rfl, rfl, h4, r4⟩ := trodAll_cons r3
  obtain ⟨v5, vs5, d5, ds5, p5, q5, rfl, rfl, rfl, h5, r5⟩ := trodAll_cons r4
  obtain ⟨rfl, rfl, rfl⟩ := trodAll_nil r5
  obtain rfl : args = #[v0, v1, v2, v3, v4, v5] := by cases args; simp_all
  obtain ⟨rfl, rfl⟩ := vars_nil hV
  have lt0 : ∀ x ∈ p0, x.block < W.heap.size := by obtain ⟨m, hm⟩ := h0; exact DataW.trod_lt m _ _ _ hm
  have k0 := h0
  obtain ⟨x0, rfl, _, _, w0'⟩ := open_int Tryd.underlying3 (hval 0 3 v0 rfl rfl) h0
  have w0 : IsInt x0 := wf_i64 w0'
  have lt1 : ∀ x ∈ p1, x.block < W.heap.size := by obtain ⟨m, hm⟩ := h1; exact DataW.trod_lt m _ _ _ hm
  have k1 := h1
  obtain ⟨x1, rfl, _, _, w1'⟩ := open_int Tryd.underlying3 (hval 1 3 v1 rfl rfl) h1
  have w1 : IsInt x1 := wf_i64 w1'
  have lt2 : ∀ x ∈ p2, x.block < W.heap.size := by obtain ⟨m, hm⟩ := h2; exact DataW.trod_lt m _ _ _ hm
  have k2 := h2
  obtain ⟨s2, rfl, w2⟩ := open_six (hval 2 37 v2 rfl rfl) h2
  have lt3 : ∀ x ∈ p3, x.block < W.heap.size := by obtain ⟨m, hm⟩ := h3; exact DataW.trod_lt m _ _ _ hm
  have k3 := h3
  obtain ⟨s3, rfl, w3⟩ := open_six (hval 3 37 v3 rfl rfl) h3
  have lt4 : ∀ x ∈ p4, x.block < W.heap.size := by obtain ⟨m, hm⟩ := h4; exact DataW.trod_lt m _ _ _ hm
  have k4 := h4
  obtain ⟨x4, rfl, _, _, w4'⟩ := open_int Tryd.underlying3 (hval 4 3 v4 rfl rfl) h4
  have w4 : IsInt x4 := wf_i64 w4'
  have lt5 : ∀ x ∈ p5, x.block < W.heap.size := by obtain ⟨m, hm⟩ := h5; exact DataW.trod_lt m _ _ _ hm
  have k5 := h5
  obtain ⟨x5, rfl, _, _, w5'⟩ := open_int Tryd.underlying3 (hval 5 3 v5 rfl rfl) h5
  have w5 : IsInt x5 := wf_i64 w5'
  clear hA0 hval0
  refine (walk x0 x1 s2 s3 x4 x5 W hg w0 w1 w2 w3 w4 w5).mono fun e W' ⟨he, bel⟩ => ?_
  subst he
  exact ⟨_, rfl, _, _, _, [], _, [], hW', trodAll_mk1 (shut_bool Tryd.underlying4 _), (trodAll_cons_mk (Below.trod laidOut (by kernel_rfl) (of_decide_eq_true (by kernel_rfl)) k0 bel lt0) (trodAll_cons_mk (Below.trod laidOut (by kernel_rfl) (of_decide_eq_true (by kernel_rfl)) k1 bel lt1) (trodAll_cons_mk (Below.trod laidOut (by kernel_rfl) (of_decide_eq_true (by kernel_rfl)) k2 bel lt2) (trodAll_cons_mk (Below.trod laidOut (by kernel_rfl) (of_decide_eq_true (by kernel_rfl)) k3 bel lt3) (trodAll_cons_mk (Below.trod laidOut (by kernel_rfl) (of_decide_eq_true (by kernel_rfl)) k4 bel lt4) (trodAll_cons_mk (Below.trod laidOut (by kernel_rfl) (of_decide_eq_true (by kernel_rfl)) k5 bel lt5) trodAll_mk0)))))), rfl, bel.frame _, fun h => by cases h⟩

theorem over : Rows.segOverRow.holds Tryd.pinned (OpenSpec.ofChange Rows.segOverSpec) :=
  OpenClaim.holds_of_wide 7 Tryd.f7 rfl rfl rfl rfl rfl rfl rfl ⟨rfl, rfl, rfl, rfl, rfl⟩ rfl rfl rfl rfl rfl (by kernel_rfl) Tryd.func7 (by kernel_rfl)
    (of_decide_eq_true (by kernel_rfl)) (by unfold Func.isWrapper; first | (rw [if_pos (by decide +kernel)]; kernel_rfl) | (rw [if_neg (by decide +kernel)]; exact ⟨rfl, rfl⟩))
    (fun os started H enc _ => lifted os started H enc)

/-- THE STATEMENT. -/
theorem proved : Rows.SegOverCardSaid :=
  Claim7.holds_tied_plain_at .later [] _ _ _ _
    over (fun _ h => by cases h) (by kernel_rfl) (fun _ h => by cases h) segOver_row_tie rfl ⟨rfl, rfl⟩ (by kernel_rfl) rfl
    (fun f fn hf hfn => by
      obtain rfl : f = 7 := Option.some.inj ((show Tryd.prog.funcNamed "gangplank/gangplanklaw1.SegOver" = some 7 by kernel_rfl).symm.trans hf) |>.symm
      obtain rfl : fn = Tryd.f7 := (Option.some.inj (Tryd.func7.symm.trans hfn)).symm
      exact ⟨by kernel_rfl, fun j t ht => by
        rw [Tryd.params7] at ht
        have hall : ((#[3, 3, 37, 37, 3, 3] : Array Nat).all fun t => !Tryd.prog.wantsStandIn t) = true := by kernel_rfl
        have := Array.all_eq_true'.1 hall t (Array.mem_of_getElem? ht)
        show Tryd.prog.wantsStandIn t = false
        simpa using this⟩)
    (by kernel_rfl)
#print axioms proved
end Go.Proofs.YtlgdmipejgggkaaDoor.segOver
