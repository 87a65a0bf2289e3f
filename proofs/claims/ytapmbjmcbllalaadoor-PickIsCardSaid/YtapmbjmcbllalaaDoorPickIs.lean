/- The law PickIs: what Check, Score and Pick tell of any servers, for any flow, is what the document says. Conditions: the row's own: errors.errorType holds its handle (tied). -/
import Derived.Test.YtapmbjmcbllalaaDoorFrameD
import Derived.Test.YtapmbjmcbllalaaDoorOpenM
import Derived.Test.YtapmbjmcbllalaaDoorRefQ
import Derived.Test.YtapmbjmcbllalaaDoorSame
import Derived.Test.YtapmbjmcbllalaaDoorTie
import Derived.Test.YtapmbjmcbllalaaDoorCards
import Derived.SevenTiedAt
namespace Go.Proofs.YtapmbjmcbllalaaDoor.pickIs
open Go.ChangeShapes Go.WideShapes Go.ChangeAt Go.RowKit

/-- What is told of a score: the number, the fault. -/
def sv (b : Bool) (v : Int) : Int := if b then v else 0
def sq (b : Bool) : Int := if b then 0 else 1
theorem score_any (seed : Int) (f : Flow) (id : Int) (w : World) : Calls Tryd.prog 16 #[.int .i64 seed, f.v, .int .i64 id] w fun e w' => e = .returned (.tuple #[.int .i64 (sv (okS seed f id) (Pl.score seed f id)), erv (sq (okS seed f id))]) ∧ Ext w w' := by
  cases h : okS seed f id
  · exact score_bad seed f id w (fun hh => by rw [okS_iff.2 hh] at h; cases h)
  · obtain ⟨h1, h2, h3⟩ := okS_iff.1 h
    exact score_ok seed f id w h1 h2 h3
theorem rscore_any (seed : Int) (f : Flow) (id : Int) (w : World) : Calls Tryd.prog 15 #[.int .i64 seed, f.v, .int .i64 id] w fun e w' => e = .returned (.tuple #[.int .i64 (sv (okS seed f id) (Pl.score seed f id)), .int .i64 (sq (okS seed f id))]) ∧ Ext w w' := by
  cases h : okS seed f id
  · exact rscore_bad seed f id w (fun hh => by rw [okS_iff.2 hh] at h; cases h)
  · obtain ⟨h1, h2, h3⟩ := okS_iff.1 h
    exact rscore_ok seed f id w h1 h2 h3
/-- What is told of a choice. -/
theorem pick_both (seed : Int) (f : Flow) (a : Option Addr) (n c : Nat) (bs : List Pl.Back) (w0 : World) (hb : Backs w0 a n bs) (hnc : n ≤ c) (i0 q0 : Int) (hp : Pl.PF bs i0 q0) :
    ∃ (y : Pl.Back) (E : Int), (∀ w, Ext w0 w → Calls Tryd.prog 18 #[.int .i64 seed, f.v, .slice a n c] w fun e w' => e = .returned (.tuple #[backv y, erv E]) ∧ Ext w w') ∧
      (∀ w, Ext w0 w → Calls Tryd.prog 17 #[.int .i64 seed, f.v, .slice a n c] w fun e w' => e = .returned (.tuple #[backv y, .int .i64 E]) ∧ Ext w w') := by
  by_cases h : q0 = 0 ∧ (0 ≤ seed ∧ seed < 2147483648) ∧ f.Ok
  · obtain ⟨hq, hs, hf⟩ := h
    have hok := hp.ok hq
    cases hbest : Pl.best (Pl.worth seed f) bs with
    | none =>
      refine ⟨Pl.back0, 4, fun w hw => (pick_ok seed f a n c bs w (hb.ext hw) hnc hok hs hf).mono fun e w' ⟨hr, q⟩ => ⟨?_, q⟩, fun w hw => (rpick_ok seed f a n c bs w (hb.ext hw) hok hs hf).mono fun e w' ⟨hr, q⟩ => ⟨?_, q⟩⟩
      · rcases hr with ⟨_, he⟩ | ⟨x, hx, _⟩
        · exact he
        · rw [hbest] at hx; cases hx
      · rcases hr with ⟨_, he⟩ | ⟨x, hx, _⟩
        · exact he
        · rw [hbest] at hx; cases hx
    | some y =>
      refine ⟨y, 0, fun w hw => (pick_ok seed f a n c bs w (hb.ext hw) hnc hok hs hf).mono fun e w' ⟨hr, q⟩ => ⟨?_, q⟩, fun w hw => (rpick_ok seed f a n c bs w (hb.ext hw) hok hs hf).mono fun e w' ⟨hr, q⟩ => ⟨?_, q⟩⟩
      · rcases hr with ⟨hn, _⟩ | ⟨x, hx, he⟩
        · rw [hbest] at hn; cases hn
        · rw [hbest] at hx; cases hx; exact he
      · rcases hr with ⟨hn, _⟩ | ⟨x, hx, he⟩
        · rw [hbest] at hn; cases hn
        · rw [hbest] at hx; cases hx; exact he
  · refine ⟨Pl.back0, pq q0, fun w hw => ?_, fun w hw => ?_⟩
    · rw [erv_ne (pq_ne q0)]
      exact pick_no seed f a n c bs w (hb.ext hw) hnc i0 q0 hp (fun hq hh => h ⟨hq, hh⟩)
    · exact rpick_no seed f a n c bs w (hb.ext hw) i0 q0 hp (fun hq hh => h ⟨hq, hh⟩)

set_option maxRecDepth 100000 in
set_option maxHeartbeats 4000000 in
theorem walk (x0 : Int) (f1 : Flow) (x2 : Int) (a3 : Option Addr) (n3 c3 : Nat) (bs : List Pl.Back) (w : World) (hg : Handle w) (_ : IsInt x0) (_ : f1.Is) (_ : IsInt x2) (w3 : IsBacks w a3 n3 c3 bs) :
    Calls Tryd.prog 4 #[.int .i64 x0, f1.v, .int .i64 x2, .slice a3 n3 c3] w fun e w' => e = .returned (.bool true) ∧ Below w.heap.size w w' := by
  obtain ⟨hb, hnc, hc⟩ := w3
  have HB := Lib.hid hb
  have HG := Lib.hid hg
  have K0 := Blk.new w 37 f1.cells
  have E0 := (Ext.refl w).alloc (.cells f1.cells 37)
  clear hb hg
  go_enter Tryd.func4, Tryd.ntmps4
  go_wp2_with fail
  refine (rbacks_any a3 n3 c3 bs _ (HB.out.ext E0)).mono ?_
  rintro e W1 ⟨⟨i, q, hpf, rfl⟩, q1⟩
  have HPF := Lib.hid hpf
  have E1 := E0.trans q1
  have K1 := K0.ext q1
  clear hpf q1 E0 K0
  go_wp2_with fail
  refine (pcheck_all a3 n3 c3 bs _ (HB.out.ext E1) hnc).mono ?_
  rintro e W2 ⟨⟨i', q', hpf, rfl⟩, q2⟩
  obtain ⟨rfl, rfl⟩ := hpf.one HPF.out
  have E2 := E1.trans q2
  have K2 := K1.ext q2
  clear hpf q2 E1 K1
  go_wp2_with fail
  refine (err_same _ W2 (HG.out.below E2)).mono ?_
  rintro e W3 ⟨rfl, q3⟩
  have E3 : Ext w W3 := Ext.trans E2 q3
  have K3 := Blk.ext K2 q3
  have l3 := K3.flow
  clear q3 E2 K2
  go_wp2_with ((apply load_by rfl _ _ rfl _ rfl); (focus (with_reducible assumption)))
  have HS1 := Lib.hid (fun w => rscore_any x0 f1 x2 w)
  have HS2 := Lib.hid (fun w => score_any x0 f1 x2 w)
  generalize sv (okS x0 f1 x2) (Pl.score x0 f1 x2) = V at *
  generalize sq (okS x0 f1 x2) = Q at *
  refine (HS1.out W3).mono ?_
  rintro e W4 ⟨rfl, q4⟩
  have E4 := E3.trans q4
  have K4 := K3.ext q4
  have l4 := K4.flow
  clear q4 E3 K3 l3
  go_wp2_with ((apply load_by rfl _ _ rfl _ rfl); (focus (with_reducible assumption)))
  refine (HS2.out W4).mono ?_
  rintro e W5 ⟨rfl, q5⟩
  have E5 := E4.trans q5
  have K5 := K4.ext q5
  clear q5 E4 K4 l4
  go_wp2_with fail
  refine (err_same _ W5 (HG.out.below E5)).mono ?_
  rintro e W6 ⟨rfl, q6⟩
  have E6 : Ext w W6 := Ext.trans E5 q6
  have K6 := Blk.ext K5 q6
  have l6 := K6.flow
  clear q6 E5 K5 HS1 HS2
  obtain ⟨y, E, hp1, hp2⟩ := pick_both x0 f1 a3 n3 c3 bs w HB.out hnc i' q' HPF.out
  have HP1 := Lib.hid hp1
  have HP2 := Lib.hid hp2
  clear hp1 hp2
  go_wp2_with ((apply load_by rfl _ _ rfl _ rfl); (focus (with_reducible assumption)))
  refine (HP2.out W6 E6).mono ?_
  rintro e W7 ⟨rfl, q7⟩
  have E7 := E6.trans q7
  have K7 := K6.ext q7
  have l7 := (K7.alloc (.cells #[.int .i64 y.id, .int .i64 y.addr, .int .i64 y.door, .int .i64 y.weight, .bool y.up, .bool y.drain] 53)).flow
  have E8 := E7.alloc (.cells #[.int .i64 y.id, .int .i64 y.addr, .int .i64 y.door, .int .i64 y.weight, .bool y.up, .bool y.drain] 53)
  have KY := Blk.new W7 53 #[.int .i64 y.id, .int .i64 y.addr, .int .i64 y.door, .int .i64 y.weight, .bool y.up, .bool y.drain]
  clear q7 E6 K6 l6
  obtain ⟨yi, ya, yd, yw, yu, yr⟩ := y
  go_wp2_with ((apply load_by rfl _ _ rfl _ rfl); (focus (with_reducible assumption)))
  refine (HP1.out _ E8).mono ?_
  rintro e W9 ⟨rfl, q9⟩
  have E9 := E8.trans q9
  have KY9 := KY.ext q9
  clear l7
  go_wp2_with fail
  have E10 := E9.alloc (.cells #[.int .i64 yi, .int .i64 ya, .int .i64 yd, .int .i64 yw, .bool yu, .bool yr] 53)
  have KY10 := KY9.alloc (.cells #[.int .i64 yi, .int .i64 ya, .int .i64 yd, .int .i64 yw, .bool yu, .bool yr] 53)
  have KZ10 := Blk.new W9 53 #[.int .i64 yi, .int .i64 ya, .int .i64 yd, .int .i64 yw, .bool yu, .bool yr]
  refine (err_same _ _ (HG.out.below E10)).mono ?_
  rintro e W11 ⟨rfl, q11⟩
  have E11 : Ext w W11 := Ext.trans E10 q11
  have cy := (Blk.ext KY10 q11).cells
  have cz := (Blk.ext KZ10 q11).cells
  clear E9 E10 KY10 KZ10 KY9 q11 q9 E8 KY
  go_wp2_with fail
  go_ret
  exact ⟨by simp, E11⟩
set_option maxRecDepth 100000 in
theorem lifted (os : Os) (started : os.Started) (H : Type) (enc : TypeId × Value → H) :
    ReturnsInHanded {} Tryd.checked os 4 .any (fun w args => (Rows.pickIsSpec.pre enc Tryd.prog Tryd.f4 [] false w args ∧ laidMetH Tryd.prog laid w) ∧ sizedMet enc Tryd.prog Tryd.f4 (OpenSpec.ofChange Rows.pickIsSpec) false w args)
      (Rows.pickIsSpec.post enc Tryd.prog Tryd.f4 false true false false) := by
  refine returnsInHanded_of_change_and (C := Tryd.checked) (X := fun w _ => laidMetH Tryd.prog laid w) (fun _ _ _ hh h => h.of_heap hh) own started (by kernel_rfl) Tryd.func4
    (ChangeSpec.witness_at (enc := enc) (C := Tryd.checked) (os := os) (X := fun w _ => laidMetH Tryd.prog laid w) false (laidWorld os) #[.int .i64 0, .agg #[.int .i64 0, .int .i64 0, .int .i64 0, .int .i64 0, .int .i64 0, .int .i64 0, .int .i64 0, .int .i64 0, .int .i64 0, .int .i64 0, .int .i64 0, .int .i64 0, .int .i64 0, .int .i64 0, .int .i64 0, .int .i64 0, .int .i64 0, .int .i64 0, .int .i64 0], .int .i64 0, .slice none 0 0] 8 rfl (by kernel_rfl) (by kernel_rfl) (by kernel_rfl) (by kernel_rfl) (by kernel_rfl) (laidWorld_met os _)) ?_
  intro W base args ds gs before hval0 hW _ _ hL _
  have hval : ∀ (j : Nat) t v, Tryd.f4.params[j]? = some t → args[j]? = some v → Value.okWide Tryd.prog W .any base t v := hval0
  have hW' := hW
  obtain ⟨p, q, hA0, hV0, rfl, hfz, hnd⟩ := hW
  have hA : DataW.TrodAll enc Tryd.prog W 0 (fun _ => true) true Tryd.f4.params.toList args.toList ds p := hA0
  have hV : DataW.TrodVars enc Tryd.prog W (fun _ => true) [] gs q := hV0
  have hg := handle_of_laid hL
  rw [Tryd.params4] at hA hval
  obtain ⟨v0, vs0, d0, ds0, p0, q0, hargs, rfl, rfl, h0, r0⟩ := trodAll_cons hA
  obtain ⟨v1, vs1, d1, ds1, p1, q1, rfl, rfl, rfl, h1, r1⟩ := trodAll_cons r0
  obtain ⟨v2, vs2, d2, ds2, p2, q2, rfl, rfl, rfl, h2, r2⟩ := trodAll_cons r1
  obtain ⟨v3, vs3, d3, ds3, p3, q3, rfl, rfl, rfl, h3, r3⟩ := trodAll_cons r2
  obtain ⟨rfl, rfl, rfl⟩ := trodAll_nil r3
  obtain rfl : args = #[v0, v1, v2, v3] := by cases args; simp_all
  obtain ⟨rfl, rfl⟩ := vars_nil hV
  have lt0 : ∀ x ∈ p0, x.block < W.heap.size := by obtain ⟨m, hm⟩ := h0; exact DataW.trod_lt m _ _ _ hm
  have k0 := h0
  obtain ⟨x0, rfl, _, _, w0'⟩ := open_int Tryd.underlying3 (hval 0 3 v0 rfl rfl) h0
  have w0 : IsInt x0 := wf_i64 w0'
  have lt1 : ∀ x ∈ p1, x.block < W.heap.size := by obtain ⟨m, hm⟩ := h1; exact DataW.trod_lt m _ _ _ hm
  have k1 := h1
  obtain ⟨f1, rfl, w1⟩ := open_flow (hval 1 37 v1 rfl rfl) h1
  have lt2 : ∀ x ∈ p2, x.block < W.heap.size := by obtain ⟨m, hm⟩ := h2; exact DataW.trod_lt m _ _ _ hm
  have k2 := h2
  obtain ⟨x2, rfl, _, _, w2'⟩ := open_int Tryd.underlying3 (hval 2 3 v2 rfl rfl) h2
  have w2 : IsInt x2 := wf_i64 w2'
  have lt3 : ∀ x ∈ p3, x.block < W.heap.size := by obtain ⟨m, hm⟩ := h3; exact DataW.trod_lt m _ _ _ hm
  have k3 := h3
  obtain ⟨a3, n3, c3, rfl⟩ := okWide_slice Tryd.underlying46 (hval 3 46 v3 rfl rfl)
  obtain ⟨b3, w3⟩ := open_backs h3
  clear hA0 hval0
  refine (walk x0 f1 x2 a3 n3 c3 b3 W hg w0 w1 w2 w3).mono fun e W' ⟨he, bel⟩ => ?_
  subst he
  exact ⟨_, rfl, _, _, _, [], _, [], hW', trodAll_mk1 (shut_bool Tryd.underlying4 _), (trodAll_cons_mk (Below.trod laidOut (by kernel_rfl) (of_decide_eq_true (by kernel_rfl)) k0 bel lt0) (trodAll_cons_mk (Below.trod laidOut (by kernel_rfl) (of_decide_eq_true (by kernel_rfl)) k1 bel lt1) (trodAll_cons_mk (Below.trod laidOut (by kernel_rfl) (of_decide_eq_true (by kernel_rfl)) k2 bel lt2) (trodAll_cons_mk (Below.trod laidOut (by kernel_rfl) (of_decide_eq_true (by kernel_rfl)) k3 bel lt3) trodAll_mk0)))), rfl, bel.frame _, fun h => by cases h⟩

theorem over : Rows.pickIsRow.holds Tryd.pinned (OpenSpec.ofChange Rows.pickIsSpec) :=
  OpenClaim.holds_of_wide 4 Tryd.f4 rfl rfl rfl rfl rfl rfl rfl ⟨rfl, rfl, rfl, rfl, rfl⟩ rfl rfl rfl rfl rfl (by kernel_rfl) Tryd.func4 (by kernel_rfl)
    (of_decide_eq_true (by kernel_rfl)) (by unfold Func.isWrapper; first | (rw [if_pos (by decide +kernel)]; kernel_rfl) | (rw [if_neg (by decide +kernel)]; exact ⟨rfl, rfl⟩))
    (fun os started H enc _ => lifted os started H enc)

/-- THE STATEMENT. -/
theorem proved : Rows.PickIsCardSaid :=
  Claim7.holds_tied_plain_at .later [] _ _ _ _
    over (fun _ h => by cases h) (by kernel_rfl) (fun _ h => by cases h) pickIs_row_tie rfl ⟨rfl, rfl⟩ (by kernel_rfl) rfl
    (fun f fn hf hfn => by
      obtain rfl : f = 4 := Option.some.inj ((show Tryd.prog.funcNamed "gangplank/gangplanklaw2.PickIs" = some 4 by kernel_rfl).symm.trans hf) |>.symm
      obtain rfl : fn = Tryd.f4 := (Option.some.inj (Tryd.func4.symm.trans hfn)).symm
      exact ⟨by kernel_rfl, fun j t ht => by
        rw [Tryd.params4] at ht
        have hall : ((#[3, 37, 3, 46] : Array Nat).all fun t => !Tryd.prog.wantsStandIn t) = true := by kernel_rfl
        have := Array.all_eq_true'.1 hall t (Array.mem_of_getElem? ht)
        show Tryd.prog.wantsStandIn t = false
        simpa using this⟩)
    (by kernel_rfl)
#print axioms proved
end Go.Proofs.YtapmbjmcbllalaaDoor.pickIs
