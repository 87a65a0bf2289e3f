/- The law Pack4Is: packets of fours as bytes, and bytes as packets, are what the document says. Conditions: the row's own: errors.errorType holds its handle (tied). -/
import Derived.Test.YtlgdmipejgggkaaDoorFrameD
import Derived.Test.YtlgdmipejgggkaaDoorOpen
import Derived.Test.YtlgdmipejgggkaaDoorIp4s
import Derived.Test.YtlgdmipejgggkaaDoorSame
import Derived.Test.YtlgdmipejgggkaaDoorTie
import Derived.Test.YtlgdmipejgggkaaDoorCards
import Derived.SevenTiedAt
namespace Go.Proofs.YtlgdmipejgggkaaDoor.pack4Is
open Go.ChangeShapes Go.WideShapes Go.ChangeAt Go.RowKit

set_option maxRecDepth 100000 in
set_option maxHeartbeats 2000000 in
theorem walk (s d t k i : Int) (a0 : Option Addr) (n0 c0 : Nat) (x0 : List Int) (a1 : Option Addr) (n1 c1 : Nat) (x1 : List Int) (w : World) (hg : Handle w)
    (w0 : (IsInt s ∧ IsInt d ∧ IsInt t ∧ IsInt k ∧ IsInt i) ∧ IsBytes w a0 n0 c0 x0 ∧ (a0 = none → c0 = 0)) (w1 : IsBytes w a1 n1 c1 x1) :
    Calls Tryd.prog 6 #[pk4 s d t k i (.slice a0 n0 c0), .slice a1 n1 c1] w fun e w' => e = .returned (.bool true) ∧ Below w.heap.size w w' := by
  obtain ⟨_, ⟨hb0, hB0, hnc0, _⟩, _⟩ := w0
  obtain ⟨hb1, hB1, hnc1, _⟩ := w1
  have HG := Lib.hid hg
  have H0 := Lib.hid hb0
  have H1 := Lib.hid hb1
  have HB1 := Lib.hid hB1
  have K0 := Blk.new w 54 (c4 s d t k i (.slice a0 n0 c0))
  have E0 : Ext w (w.alloc (.cells (c4 s d t k i (.slice a0 n0 c0)) 54)) := (Ext.refl w).alloc _
  have l0 := K0.p4
  clear hg hb0 hB0 hb1 hB1
  obtain ⟨E, hE⟩ : ∃ E, fault4 s d t k i n0 = E := ⟨_, rfl⟩
  have HF := Lib.hid (fun W => (show Calls Tryd.prog 24 #[.agg (c4 s d t k i (.slice a0 n0 c0))] W (fun e w' => e = .returned (.int .i64 E) ∧ Ext W w') from hE ▸ rfault4_any s d t k i a0 n0 c0 W))
  have HC := Lib.hid (fun W => (show Calls Tryd.prog 25 #[.agg (c4 s d t k i (.slice a0 n0 c0))] W (fun e w' => e = .returned (erv E) ∧ Ext W w') from hE ▸ check4p_any s d t k i a0 n0 c0 W))
  have HE := Lib.hid hE
  clear hE
  unfold pk4
  go_enter Tryd.func6, Tryd.ntmps6
  go_wp2_with ((apply load_by rfl _ _ rfl _ rfl); (focus (with_reducible assumption)))
  refine (HF.out _).mono ?_
  rintro e W1 ⟨rfl, q1⟩
  have K1 := K0.ext q1
  have E1 := E0.trans q1
  have l1 := K1.p4
  clear l0 K0 E0 q1
  go_wp2_with ((apply load_by rfl _ _ rfl _ rfl); (focus (with_reducible assumption)))
  refine (HC.out _).mono ?_
  rintro e W2 ⟨rfl, q2⟩
  have K2 := K1.ext q2
  have E2 := E1.trans q2
  clear l1 K1 E1 q2
  go_wp2_with fail
  refine (err_same E W2 (HG.out.below E2)).mono ?_
  rintro e W3 ⟨rfl, b3⟩
  have K3 := K2.ext b3
  have E3 : Ext w W3 := Ext.trans E2 b3
  have l3 := K3.p4
  clear K2 E2 b3
  by_cases hz : E = 0
  case' pos =>
    subst hz
    have HOK := Lib.hid (fault4_zero HE.out)
    go_wp2_with ((apply load_by rfl _ _ rfl _ rfl); (focus (with_reducible assumption)))
    refine (encoded4_any s d t k i a0 n0 c0 x0 W3 HOK.out.1 HOK.out.2 (H0.out.ext E3)).mono ?_
    rintro e W4 ⟨v4, rfl, o4, q4⟩
    obtain ⟨a4, n4, d4, rfl, _, r4⟩ := o4.read
    have z4 := conv_str (c := d4) r4
    have K4 := K3.ext q4
    have E4 := E3.trans q4
    have l4 := K4.p4
    clear l3 K3 E3 q4 o4 r4
    obtain ⟨z, hzz⟩ : ∃ z, strOfNums (Pl.enc4 s d t k i x0) = z := ⟨_, rfl⟩
    rw [hzz] at z4
    have HZ := Lib.hid hzz
    clear hzz
    go_wp2_with ((apply load_by rfl _ _ rfl _ rfl); (focus (with_reducible assumption)))
    refine (encode4_ok s d t k i a0 n0 c0 x0 W4 HOK.out.1 HOK.out.2 (H0.out.ext E4)).mono ?_
    rintro e W5 ⟨v5, rfl, o5, q5⟩
    obtain ⟨a5, n5, d5, rfl, _, r5⟩ := o5.read
    have E5 := E4.trans q5
    have z5 := conv_str (c := d5) r5
    rw [HZ.out] at z5
    clear l4 K4 E4 q5 o5 r5 z4
    go_wp2_with fail
    refine (error_nil 0 W5).mono ?_
    rintro e w' ⟨rfl, rfl⟩
    go_upto_region 10 with (fail)
    refine at_worldF (fun W => Ext w W) E5 ?_
    clear E5 z5
  case' neg =>
    have hz' : (E == 0) = false := by simpa using hz
    have hb := encode4_err s d t k i a0 n0 c0 W3 (by rw [HE.out]; exact hz)
    rw [HE.out] at hb
    have HB := Lib.hid hb
    clear hz hb
    go_wp2_with ((apply load_by rfl _ _ rfl _ rfl); (focus (with_reducible assumption)))
    refine HB.out.mono ?_
    rintro e W4 ⟨rfl, q4⟩
    have K4 := K3.ext q4
    have E4 := E3.trans q4
    clear l3 K3 E3 q4
    go_wp2_with fail
    refine (err_same E W4 (HG.out.below E4)).mono ?_
    rintro e W5 ⟨rfl, b5⟩
    have K5 := K4.ext b5
    have E5 : Ext w W5 := Ext.trans E4 b5
    have z5 := conv_str (w := W5) (c := 0) (a := none) (n := 0) Ints.nil
    have ez : strOfNums [] = ⟨#[]⟩ := rfl
    rw [ez] at z5
    clear K4 E4 b5
    go_upto_region 10 with (fail)
    refine at_worldF (fun W => Ext w W) E5 ?_
    clear K5 E5 z5
  all_goals
    rintro W6 E6
    go_wp2_with fail
    by_cases hI : Pl.Shape4 x1 ∧ Pl.at2 x1 10 = Pl.sum4 (Pl.at4 x1 12) (Pl.at4 x1 16) (x1.getD 8 0) (x1.getD 9 0) (Pl.at2 x1 4) ((x1.drop 20).length : Nat)
    case neg =>
      obtain ⟨r, hr0, D1, D2⟩ : ∃ r : Int, r ≠ 0 ∧ (∀ W, Ext w W → Calls Tryd.prog 28 #[.slice a1 n1 c1] W fun e w' => e = .returned (.tuple #[pk4 0 0 0 0 0 (.slice none 0 0), .int .i64 r]) ∧ Ext W w') ∧
          (∀ W, Ext w W → Calls Tryd.prog 29 #[.slice a1 n1 c1] W fun e w' => e = .returned (.tuple #[pk4 0 0 0 0 0 (.slice none 0 0), errv r]) ∧ Ext W w') := by
        by_cases hs : Pl.Shape4 x1
        · refine ⟨6, by decide, fun W q => ?_, fun W q => ?_⟩
          · exact (decoded4_core a1 n1 c1 x1 W (H1.out.ext q) HB1.out hnc1 hs _ _ _ _ _ rfl rfl rfl rfl rfl).mono fun e w' h => ⟨h.2.1 (fun hh => hI ⟨hs, hh⟩), h.2.2⟩
          · exact (decode4_all a1 n1 c1 x1 W (H1.out.ext q) HB1.out hnc1).mono fun e w' h => ⟨h.2.1 hs (fun hh => hI ⟨hs, hh⟩), h.2.2.2⟩
        · refine ⟨5, by decide, fun W q => ?_, fun W q => ?_⟩
          · exact decoded4_shape a1 n1 c1 x1 W (H1.out.ext q) HB1.out hs
          · exact (decode4_all a1 n1 c1 x1 W (H1.out.ext q) HB1.out hnc1).mono fun e w' h => ⟨h.1 hs, h.2.2.2⟩
      have D1 := Lib.hid D1
      have D2 := Lib.hid D2
      unfold pk4 at D1 D2
      unfold errv at D2
      clear hI hr0
      refine (D1.out _ E6).mono ?_
      rintro e W7 ⟨rfl, q7⟩
      have E7 := E6.trans q7
      have KA := Blk.new W7 54 (c4 0 0 0 0 0 (.slice none 0 0))
      have s7 := sto4 KA 0 0 0 0 0 none 0 0
      have KA8 := KA.row (c4 0 0 0 0 0 (.slice none 0 0))
      have E8 := (E7.alloc (.cells (c4 0 0 0 0 0 (.slice none 0 0)) 54)).row E7.size (c4 0 0 0 0 0 (.slice none 0 0))
      clear E6 q7 E7 KA
      go_wp2_with ((apply store_by rfl _ _ _ rfl _ rfl); (focus (with_reducible assumption)); (focus rfl))
      refine at_world (fun W => Ext w W ∧ Blk W W7.heap.size 54 (c4 0 0 0 0 0 (.slice none 0 0))) ⟨E8, KA8⟩ ?_
      clear s7 KA8 E8
      rintro W9 ⟨E9, KA9⟩
      generalize W7.heap.size = R7 at *
      refine (D2.out W9 E9).mono ?_
      rintro e W10 ⟨rfl, q10⟩
      have E10 := E9.trans q10
      have KA10 := KA9.ext q10
      have KB := Blk.new W10 54 (c4 0 0 0 0 0 (.slice none 0 0))
      have s10 := sto4 KB 0 0 0 0 0 none 0 0
      have hne : R7 ≠ W10.heap.size := by have := KA10.lt; omega
      have KB11 := KB.row (c4 0 0 0 0 0 (.slice none 0 0))
      have KA11 := (KA10.alloc (.cells (c4 0 0 0 0 0 (.slice none 0 0)) 54)).farRow hne (c4 0 0 0 0 0 (.slice none 0 0))
      have E11 := (E10.alloc (.cells (c4 0 0 0 0 0 (.slice none 0 0)) 54)).row E10.size (c4 0 0 0 0 0 (.slice none 0 0))
      clear E9 KA9 q10 E10 KA10 KB
      go_wp2_with ((apply store_by rfl _ _ _ rfl _ rfl); (focus (with_reducible assumption)); (focus rfl))
      refine at_world (fun W => Ext w W ∧ Blk W R7 54 (c4 0 0 0 0 0 (.slice none 0 0)) ∧ Blk W W10.heap.size 54 (c4 0 0 0 0 0 (.slice none 0 0))) ⟨E11, KA11, KB11⟩ ?_
      clear s10 KA11 KB11 E11 hne
      rintro W12 ⟨E12, KA12, KB12⟩
      generalize W10.heap.size = R10 at *
      refine (error_err r r W12 (HG.out.below E12)).mono ?_
      rintro e W13 ⟨rfl, b13⟩
      have E13 : Ext w W13 := Ext.trans E12 b13
      have la := (Blk.ext KA12 b13).p4
      have lb := (Blk.ext KB12 b13).p4
      clear E12 KA12 KB12 b13
      go_wp2_with ((apply load_by rfl _ _ rfl _ rfl); (focus (with_reducible assumption)))
      refine (pack4s_yes 0 0 0 0 0 none none 0 0 0 0 [] W13 Ints.nil Ints.nil).mono ?_
      rintro e W14 ⟨rfl, q14⟩
      have E14 := E13.trans q14
      go_wp2_with fail
      go_ret
      exact ⟨by simp, E14⟩
    case pos =>
      have HI := Lib.hid hI
      have D1 := Lib.hid (fun (W : World) (q : Ext w W) => (decoded4_core a1 n1 c1 x1 W (H1.out.ext q) HB1.out hnc1 hI.1 _ _ _ _ _ rfl rfl rfl rfl rfl).mono fun e w' h => (show (∃ a' n' c', e = .returned (.tuple #[pk4 _ _ _ _ _ (.slice a' n' c'), .int .i64 0]) ∧ Ints .u8 w' a' n' (x1.drop 20)) ∧ Ext W w' from ⟨h.1 hI.2, h.2.2⟩))
      have D2 := Lib.hid (fun (W : World) (q : Ext w W) => (decode4_all a1 n1 c1 x1 W (H1.out.ext q) HB1.out hnc1).mono fun e w' h => (show (∃ v, e = .returned (.tuple #[pk4 _ _ _ _ _ v, .nilIface]) ∧ Own w' W.heap.size v (x1.drop 20)) ∧ Ext W w' from ⟨h.2.2.1 hI.1 hI.2, h.2.2.2⟩))
      clear hI
      generalize Pl.at4 x1 12 = FS at *
      generalize Pl.at4 x1 16 = FD at *
      generalize Pl.at2 x1 4 = FI at *
      generalize x1.getD 8 0 = FT at *
      generalize x1.getD 9 0 = FK at *
      unfold pk4 at D1 D2
      refine (D1.out _ E6).mono ?_
      rintro e W7 ⟨⟨aq, nq', cq, rfl, iq⟩, q7⟩
      have E7 := E6.trans q7
      have KA := Blk.new W7 54 (c4 0 0 0 0 0 (.slice none 0 0))
      have s7 := sto4 KA FS FD FT FK FI aq nq' cq
      have KA8 := KA.row (c4 FS FD FT FK FI (.slice aq nq' cq))
      have X8 := ((Ext.refl W7).alloc (.cells (c4 0 0 0 0 0 (.slice none 0 0)) 54)).row (Nat.le_refl _) (c4 FS FD FT FK FI (.slice aq nq' cq))
      have E8 := E7.trans X8
      have iq8 := iq.ext X8
      clear E6 q7 E7 KA X8 iq
      go_wp2_with ((apply store_by rfl _ _ _ rfl _ rfl); (focus (with_reducible assumption)); (focus rfl))
      refine at_world (fun W => Ext w W ∧ Blk W W7.heap.size 54 (c4 FS FD FT FK FI (.slice aq nq' cq)) ∧ Ints .u8 W aq nq' (x1.drop 20)) ⟨E8, KA8, iq8⟩ ?_
      clear s7 KA8 E8 iq8
      rintro W9 ⟨E9, KA9, iq9⟩
      generalize W7.heap.size = R7 at *
      refine (D2.out W9 E9).mono ?_
      rintro e W10 ⟨⟨v10, rfl, o10⟩, q10⟩
      obtain ⟨ay, ny, cy, rfl, _, iy⟩ := o10.read
      have E10 := E9.trans q10
      have KA10 := KA9.ext q10
      have iq10 := iq9.ext q10
      have KB := Blk.new W10 54 (c4 0 0 0 0 0 (.slice none 0 0))
      have s10 := sto4 KB FS FD FT FK FI ay ny cy
      have hne : R7 ≠ W10.heap.size := by have := KA10.lt; omega
      have KB11 := KB.row (c4 FS FD FT FK FI (.slice ay ny cy))
      have KA11 := (KA10.alloc (.cells (c4 0 0 0 0 0 (.slice none 0 0)) 54)).farRow hne (c4 FS FD FT FK FI (.slice ay ny cy))
      have X11 := ((Ext.refl W10).alloc (.cells (c4 0 0 0 0 0 (.slice none 0 0)) 54)).row (Nat.le_refl _) (c4 FS FD FT FK FI (.slice ay ny cy))
      have E11 := E10.trans X11
      have iq11 := iq10.ext X11
      have iy11 := iy.ext X11
      clear E9 KA9 q10 E10 KA10 KB iq9 iq10 iy o10 X11
      go_wp2_with ((apply store_by rfl _ _ _ rfl _ rfl); (focus (with_reducible assumption)); (focus rfl))
      refine at_world (fun W => Ext w W ∧ Blk W R7 54 (c4 FS FD FT FK FI (.slice aq nq' cq)) ∧ Blk W W10.heap.size 54 (c4 FS FD FT FK FI (.slice ay ny cy)) ∧ Ints .u8 W aq nq' (x1.drop 20) ∧ Ints .u8 W ay ny (x1.drop 20)) ⟨E11, KA11, KB11, iq11, iy11⟩ ?_
      clear s10 KA11 KB11 E11 hne iq11 iy11
      rintro W12 ⟨E12, KA12, KB12, iq12, iy12⟩
      generalize W10.heap.size = R10 at *
      refine (error_nil 0 W12).mono ?_
      rintro e w' ⟨rfl, rfl⟩
      have la := KA12.p4
      have lb := KB12.p4
      clear KA12 KB12
      go_wp2_with ((apply load_by rfl _ _ rfl _ rfl); (focus (with_reducible assumption)))
      refine (pack4s_yes FS FD FT FK FI ay aq ny cy nq' cq (x1.drop 20) W12 iy12 iq12).mono ?_
      rintro e W14 ⟨rfl, q14⟩
      have E14 := E12.trans q14
      go_wp2_with fail
      go_ret
      exact ⟨rfl, E14⟩
set_option maxRecDepth 100000 in
theorem lifted (os : Os) (started : os.Started) (H : Type) (enc : TypeId × Value → H) :
    ReturnsInHanded {} Tryd.checked os 6 .any (fun w args => (Rows.pack4IsSpec.pre enc Tryd.prog Tryd.f6 [] false w args ∧ laidMetH Tryd.prog laid w) ∧ sizedMet enc Tryd.prog Tryd.f6 (OpenSpec.ofChange Rows.pack4IsSpec) false w args)
      (Rows.pack4IsSpec.post enc Tryd.prog Tryd.f6 false true false false) := by
  refine returnsInHanded_of_change_and (C := Tryd.checked) (X := fun w _ => laidMetH Tryd.prog laid w) (fun _ _ _ hh h => h.of_heap hh) own started (by kernel_rfl) Tryd.func6
    (ChangeSpec.witness_at (enc := enc) (C := Tryd.checked) (os := os) (X := fun w _ => laidMetH Tryd.prog laid w) false (laidWorld os) #[.agg #[.int .i64 0, .int .i64 0, .int .i64 0, .int .i64 0, .int .i64 0, .slice none 0 0], .slice none 0 0] 8 rfl (by kernel_rfl) (by kernel_rfl) (by kernel_rfl) (by kernel_rfl) (by kernel_rfl) (laidWorld_met os _)) ?_
  intro W base args ds gs before hval0 hW _ _ hL _
  have hval : ∀ (j : Nat) t v, Tryd.f6.params[j]? = some t → args[j]? = some v → Value.okWide Tryd.prog W .any base t v := hval0
  have hW' := hW
  obtain ⟨p, q, hA0, hV0, rfl, hfz, hnd⟩ := hW
  have hA : DataW.TrodAll enc Tryd.prog W 0 (fun _ => true) true Tryd.f6.params.toList args.toList ds p := hA0
  have hV : DataW.TrodVars enc Tryd.prog W (fun _ => true) [] gs q := hV0
  have hg := handle_of_laid hL
  rw [Tryd.params6] at hA hval
  obtain ⟨v0, vs0, d0, ds0, p0, q0, hargs, rfl, rfl, h0, r0⟩ := trodAll_cons hA
  obtain ⟨v1, vs1, d1, ds1, p1, q1, rfl, rfl, rfl, h1, r1⟩ := trodAll_cons r0
  obtain ⟨rfl, rfl, rfl⟩ := trodAll_nil r1
  obtain rfl : args = #[v0, v1] := by cases args; simp_all
  obtain ⟨rfl, rfl⟩ := vars_nil hV
  have lt0 : ∀ x ∈ p0, x.block < W.heap.size := by obtain ⟨m, hm⟩ := h0; exact DataW.trod_lt m _ _ _ hm
  have k0 := h0
  obtain ⟨ps0, pd0, pt0, pk0, pi0, a0, n0, c0, x0, rfl, w0⟩ := open_pack4 (hval 0 54 v0 rfl rfl) h0
  have lt1 : ∀ x ∈ p1, x.block < W.heap.size := by obtain ⟨m, hm⟩ := h1; exact DataW.trod_lt m _ _ _ hm
  have k1 := h1
  obtain ⟨a1, n1, c1, rfl⟩ := okWide_slice Tryd.underlying22 (hval 1 22 v1 rfl rfl)
  obtain ⟨x1, w1⟩ := open_bytes h1
  clear hA0 hval0
  refine (walk ps0 pd0 pt0 pk0 pi0 a0 n0 c0 x0 a1 n1 c1 x1 W hg w0 w1).mono fun e W' ⟨he, bel⟩ => ?_
  subst he
  exact ⟨_, rfl, _, _, _, [], _, [], hW', trodAll_mk1 (shut_bool Tryd.underlying4 _), (trodAll_cons_mk (Below.trod laidOut (by kernel_rfl) (of_decide_eq_true (by kernel_rfl)) k0 bel lt0) (trodAll_cons_mk (Below.trod laidOut (by kernel_rfl) (of_decide_eq_true (by kernel_rfl)) k1 bel lt1) trodAll_mk0)), rfl, bel.frame _, fun h => by cases h⟩

theorem over : Rows.pack4IsRow.holds Tryd.pinned (OpenSpec.ofChange Rows.pack4IsSpec) :=
  OpenClaim.holds_of_wide 6 Tryd.f6 rfl rfl rfl rfl rfl rfl rfl ⟨rfl, rfl, rfl, rfl, rfl⟩ rfl rfl rfl rfl rfl (by kernel_rfl) Tryd.func6 (by kernel_rfl)
    (of_decide_eq_true (by kernel_rfl)) (by unfold Func.isWrapper; first | (rw [if_pos (by decide +kernel)]; kernel_rfl) | (rw [if_neg (by decide +kernel)]; exact ⟨rfl, rfl⟩))
    (fun os started H enc _ => lifted os started H enc)

/-- THE STATEMENT. -/
theorem proved : Rows.Pack4IsCardSaid :=
  Claim7.holds_tied_plain_at .later [] _ _ _ _
    over (fun _ h => by cases h) (by kernel_rfl) (fun _ h => by cases h) pack4Is_row_tie rfl ⟨rfl, rfl⟩ (by kernel_rfl) rfl
    (fun f fn hf hfn => by
      obtain rfl : f = 6 := Option.some.inj ((show Tryd.prog.funcNamed "gangplank/gangplanklaw1.Pack4Is" = some 6 by kernel_rfl).symm.trans hf) |>.symm
      obtain rfl : fn = Tryd.f6 := (Option.some.inj (Tryd.func6.symm.trans hfn)).symm
      exact ⟨by kernel_rfl, fun j t ht => by
        rw [Tryd.params6] at ht
        have hall : ((#[54, 22] : Array Nat).all fun t => !Tryd.prog.wantsStandIn t) = true := by kernel_rfl
        have := Array.all_eq_true'.1 hall t (Array.mem_of_getElem? ht)
        show Tryd.prog.wantsStandIn t = false
        simpa using this⟩)
    (by kernel_rfl)
#print axioms proved
end Go.Proofs.YtlgdmipejgggkaaDoor.pack4Is
