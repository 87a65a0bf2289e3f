/- The walk of the law AddrBack. Conditions: the library's tables and sentinels hold what they hold. -/
import Derived.Test.YtefdhlmljocnkaaDoorBack4
import Derived.Test.YtefdhlmljocnkaaDoorStarts
import Derived.Test.YtefdhlmljocnkaaDoorSixEq
import Derived.Test.YtefdhlmljocnkaaDoorQld
import Derived.Deep.QuietTactic
namespace Go.Proofs.YtefdhlmljocnkaaDoor
open Go.RowKit
theorem inB_all {a b : Six} (ha : okS a = true) (hb : okS b = true) : Pl.inB a b 128 = sixEq a b := by
  rw [Bool.eq_iff_iff, Pl.inB_iff, sixEq_iff]
  constructor
  · intro h
    have e : ∀ k, k < 8 → a.l.getD k 0 = b.l.getD k 0 := fun k hk => by
      have hx := Six.Ok.at (s := a) ha k
      have hy := Six.Ok.at (s := b) hb k
      have := (top_same _ _ 16 (Nat.le_refl _) hx hy).2 (fun r hr => by
        have := h (16 * k + r) (by omega)
        unfold Pl.bitAt at this
        rwa [show (16 * k + r) / 16 = k by omega, show (16 * k + r) % 16 = r by omega] at this)
      simpa using this
    cases a
    cases b
    have e0 := e 0 (by omega)
    have e1 := e 1 (by omega)
    have e2 := e 2 (by omega)
    have e3 := e 3 (by omega)
    have e4 := e 4 (by omega)
    have e5 := e 5 (by omega)
    have e6 := e 6 (by omega)
    have e7 := e 7 (by omega)
    simp [Six.l] at e0 e1 e2 e3 e4 e5 e6 e7
    simp [*]
  · rintro rfl i _
    rfl
theorem inB_none (a b : Six) : Pl.inB a b 0 = true := by rw [Pl.inB_iff]; intro i hi; omega
def fact6 : Six := ⟨8193, 3512, 0, 0, 1, 0, 0, 1⟩
theorem fact6_text : txtB (Pl.textL fact6.nl) = ⟨#[50, 48, 48, 49, 58, 100, 98, 56, 58, 58, 49, 58, 48, 58, 48, 58, 49]⟩ := by
  have : Pl.textL fact6.nl = [50, 48, 48, 49, 58, 100, 98, 56, 58, 58, 49, 58, 48, 58, 48, 58, 49] := by decide +kernel
  rw [this]
  rfl
theorem erv_eql (q : Int) (W : World) : (binOp .eql 31 (erv q) .nilIface).run Tryd.prog W = .ok (.bool (q == 0)) W := by
  by_cases h : q = 0
  · subst h
    kernel_rfl
  · rw [erv_ne h, show (q == 0) = false by simpa using h]
    unfold errv
    kernel_rfl
theorem erv_neq (q : Int) (W : World) : (binOp .neq 31 (erv q) .nilIface).run Tryd.prog W = .ok (.bool (!(q == 0))) W := by
  by_cases h : q = 0
  · subst h
    kernel_rfl
  · rw [erv_ne h, show (q == 0) = false by simpa using h]
    unfold errv
    kernel_rfl
theorem erv_guard (o : BinOp) (x : Operand) (q : Int) (W : World) : (eqGuard o 31 x (.const .nilIface) (erv q) .nilIface).run Tryd.prog W = .ok () W := by
  unfold eqGuard
  by_cases h : q = 0
  · subst h
    cases o <;> first | rfl | (cases x <;> rfl)
  · rw [erv_ne h]
    unfold errv
    cases o <;> rfl
theorem print4_any (n : Int) (w : World) (T : Tabs w) : Calls Tryd.prog 31 #[.int .i64 n] w fun e w' => (∃ (S : ByteArray) (q : Int), e = .returned (.tuple #[.string S, erv q]) ∧ (q = 0 → ∃ u : Nat, n = (u : Int) ∧ u < 4294967296 ∧ S = txtB (text4 u))) ∧ Ext w w' := by
  by_cases h : 0 ≤ n ∧ n < 4294967296
  · obtain ⟨u, rfl⟩ := Int.eq_ofNat_of_zero_le h.1
    exact (print4_yes u w T (by omega)).mono fun e w' ⟨h1, h2⟩ => ⟨⟨_, 0, h1, fun _ => ⟨u, rfl, by omega, rfl⟩⟩, h2⟩
  · exact (print4_no n w h).mono fun e w' ⟨h1, h2⟩ => ⟨⟨⟨#[]⟩, 1, by rw [h1, erv_ne (by decide)], fun h => absurd h (by decide)⟩, h2⟩
theorem PG.one {t : List UInt8} {e : Ending} (h : PG t e) : ∃ (x : Six) (q : Int), e = .returned (.tuple #[x.v, erv q]) ∧ (q = 0 → parsed t = some x) := by
  rcases h with ⟨s, hs, rfl⟩ | ⟨_, rfl⟩
  · exact ⟨s, 0, rfl, fun _ => hs⟩
  · exact ⟨zSix, 5, by rw [erv_ne (by decide)], fun h => absurd h (by decide)⟩
set_option maxRecDepth 100000 in
set_option maxHeartbeats 4000000 in
theorem addrBack_any (a b : Six) (n : Int) (t : ByteArray) (w : World) (T : Tabs w) :
    Calls Tryd.prog 6 #[a.v, b.v, .int .i64 n, .string t] w fun e w' => e = .returned (.bool true) ∧ Ext w w' := by
  have KA := (Blk.new w 23 a.cells).alloc (.cells b.cells 23)
  have KB := Blk.at (n := w.heap.size + 1) (w.alloc (.cells a.cells 23)) 23 b.cells (by simp)
  have E0 := ((Ext.refl w).alloc (.cells a.cells 23)).alloc (.cells b.cells 23)
  have HT := Lib.hid T
  clear T
  go_enter Tryd.func6, Tryd.ntmps6
  go_upto_region 1 with (fail)
  refine at_worldE (fun W => Ext w W ∧ Blk W w.heap.size 23 a.cells ∧ Blk W (w.heap.size + 1) 23 b.cells) ⟨E0, KA, KB⟩ ?_
  clear E0 KA KB
  rintro W0 ⟨E0, KA, KB⟩
  have HF := Lib.hid (print_yes fact6 W0 (HT.out.ext E0) (by decide))
  go_wp2_with fail
  refine HF.out.mono ?_
  rintro e W1 ⟨rfl, q1⟩
  rw [fact6_text]
  have E1 := E0.trans q1
  have KA1 := KA.ext q1
  have KB1 := KB.ext q1
  clear E0 KA KB q1 HF
  go_wp2_with fail
  refine (print4_any n W1 (HT.out.ext E1)).mono ?_
  rintro e W2 ⟨⟨S, q, rfl, hq⟩, q2⟩
  have E2 := E1.trans q2
  have KA2 := KA1.ext q2
  have KB2 := KB1.ext q2
  have HQ := Lib.hid hq
  have he1 := erv_eql q
  have he2 := fun o x => erv_guard o x q
  clear E1 KA1 KB1 q2 hq
  generalize hv : erv q = v at *
  go_upto_if 40 with (fail)
  go_cut [] (fun wc => Ext w wc ∧ Blk wc w.heap.size 23 a.cells ∧ Blk wc (w.heap.size + 1) 23 b.cells)
  case first =>
    by_cases hz : q = 0
    case neg =>
      have hzb : (q == 0) = false := by simpa using hz
      clear hz
      go_wp2_with fail
      go_meet
      exact ⟨E2, KA2, KB2⟩
    have hzb : (q == 0) = true := by simpa using hz
    obtain ⟨u, rfl, hu, rfl⟩ := HQ.out hz
    have HP := Lib.hid (parse4_back u W2 (HT.out.ext E2) hu)
    clear hz
    go_wp2_with fail
    refine HP.out.mono ?_
    rintro e W3 ⟨rfl, q3⟩
    have E3 := E2.trans q3
    have KA3 := KA2.ext q3
    have KB3 := KB2.ext q3
    clear E2 KA2 KB2 q3
    go_wp2_with fail
    go_meet
    exact ⟨E3, KA3, KB3⟩
  clear E2 KA2 KB2 he1 he2 HQ hv
  obtain ⟨E2, KA2, KB2⟩ := hcut
  have HP := Lib.hid (parse_any t _ (HT.out.ext E2))
  go_wp2_with fail
  refine HP.out.mono ?_
  rintro e W5 ⟨he, q5⟩
  obtain ⟨x, q', rfl, hx⟩ := he.one
  have E5 := E2.trans q5
  have KA5 := KA2.ext q5
  have KB5 := KB2.ext q5
  have HX := Lib.hid hx
  have he1 := erv_eql q'
  have he2 := fun o x => erv_guard o x q'
  clear HP he hx E2 KA2 KB2 q5
  generalize hv : erv q' = v at *
  have hgt : w.heap.size + 1 < W5.heap.size := KB5.lt
  have KZ := Blk.new W5 23 zc6
  have st := KZ.store (ty := 23) (cs := x.cells) rfl Tryd.size6 (by simp [Six.cells, Value.oneCell'])
  have KX6 := KZ.row x.cells
  have KA6 := (KA5.alloc (.cells zc6 23)).farRow (show w.heap.size ≠ W5.heap.size by omega) x.cells
  have KB6 := (KB5.alloc (.cells zc6 23)).farRow (show w.heap.size + 1 ≠ W5.heap.size by omega) x.cells
  have E6 := (E5.alloc (.cells zc6 23)).row (k := W5.heap.size) E5.size x.cells
  clear KZ E5 KA5 KB5
  go_upto_if 59 with (((apply store_by rfl _ _ _ rfl _ rfl); (focus (with_reducible assumption)); (focus rfl)))
  refine at_worldE (fun W => Ext w W ∧ Blk W w.heap.size 23 a.cells ∧ Blk W (w.heap.size + 1) 23 b.cells ∧ Blk W W5.heap.size 23 x.cells) ⟨E6, KA6, KB6, KX6⟩ ?_
  clear st E6 KA6 KB6 KX6
  rintro W6 ⟨E6, KA6, KB6, KX6⟩
  generalize W5.heap.size = g at *
  go_cut [] (fun wc => Ext w wc ∧ Blk wc w.heap.size 23 a.cells ∧ Blk wc (w.heap.size + 1) 23 b.cells ∧ Blk wc g 23 x.cells)
  case first =>
    by_cases hz : q' = 0
    case neg =>
      have hzb : (q' == 0) = false := by simpa using hz
      clear hz
      go_wp2_with fail
      go_meet
      exact ⟨E6, KA6, KB6, KX6⟩
    have hzb : (q' == 0) = true := by simpa using hz
    obtain ⟨hok, htx⟩ := parsed_some (HX.out hz)
    have HP := Lib.hid (print_yes x W6 (HT.out.ext E6) hok)
    have hT : txtB (Pl.textL x.nl) = t := by rw [htx, txtB_data]
    rw [hT] at HP
    have ld := KX6.six0
    clear hz hT htx hok
    go_wp2_with ((apply load_by rfl _ _ rfl _ rfl); (focus (with_reducible assumption)))
    refine HP.out.mono ?_
    rintro e W7 ⟨rfl, q7⟩
    have E7 := E6.trans q7
    have KA7 := KA6.ext q7
    have KB7 := KB6.ext q7
    have KX7 := KX6.ext q7
    clear E6 KA6 KB6 KX6 q7 ld
    go_wp2_with fail
    go_meet
    exact ⟨E7, KA7, KB7, KX7⟩
  clear E6 KA6 KB6 KX6 he1 he2 HX hv
  obtain ⟨E6, KA6, KB6, KX6⟩ := hcut
  have ld := KA6.six0
  by_cases hok : okS a = true
  case neg =>
    have hok : okS a = false := by simpa using hok
    have HP := Lib.hid (fun W => print_no a W hok)
    clear hok
    go_wp2_with ((apply load_by rfl _ _ rfl _ rfl); (focus (with_reducible assumption)))
    refine (HP.out _).mono ?_
    rintro e W7 ⟨rfl, q7⟩
    have E7 := E6.trans q7
    unfold errv
    clear E6 KA6 KB6 KX6 q7 ld
    go_wp2_with fail
    go_returns
    exact ⟨rfl, E7⟩
  have HP := Lib.hid (print_yes a _ (HT.out.ext E6) hok)
  have HO := Lib.hid hok
  clear hok
  go_wp2_with ((apply load_by rfl _ _ rfl _ rfl); (focus (with_reducible assumption)))
  refine HP.out.mono ?_
  rintro e W7 ⟨rfl, q7⟩
  have E7 := E6.trans q7
  have KA7 := KA6.ext q7
  have KB7 := KB6.ext q7
  have KX7 := KX6.ext q7
  have hpa := parse_any (txtB (Pl.textL a.nl)) W7 (HT.out.ext E7)
  have hpt := parsed_text HO.out
  have HP2 := Lib.hid hpa
  have HPT := Lib.hid hpt
  clear E6 KA6 KB6 KX6 q7 ld hpa hpt HP
  obtain ⟨T2, hT2⟩ : ∃ T2, T2 = txtB (Pl.textL a.nl) := ⟨_, rfl⟩
  rw [← hT2] at HP2 ⊢
  have HTT := Lib.hid hT2
  clear hT2
  go_wp2_with fail
  refine HP2.out.mono ?_
  rintro e W8 ⟨he, q8⟩
  rw [HTT.out, txtB_list] at he
  rcases he with ⟨s, hs, rfl⟩ | ⟨hn, rfl⟩
  case inr =>
    rw [HPT.out] at hn
    cases hn
  rw [HPT.out] at hs
  obtain rfl := Option.some.inj hs
  have E8 := E7.trans q8
  have KX8 := KX7.ext q8
  have st := KX8.store (ty := 23) (cs := a.cells) rfl Tryd.size6 (by simp [Six.cells, Value.oneCell'])
  have KX9 := KX8.row a.cells
  have KA9 := (KA7.ext q8).farRow (show w.heap.size ≠ g by omega) a.cells
  have KB9 := (KB7.ext q8).farRow (show w.heap.size + 1 ≠ g by omega) a.cells
  have E9 := E8.row (k := g) (by omega) a.cells
  clear E7 KA7 KB7 KX7 q8 E8 KX8 hs HP2
  go_upto_region 18 with (((apply store_by rfl _ _ _ rfl _ rfl); (focus (with_reducible assumption)); (focus rfl)))
  refine at_worldE (fun W => Ext w W ∧ Blk W w.heap.size 23 a.cells ∧ Blk W (w.heap.size + 1) 23 b.cells ∧ Blk W g 23 a.cells) ⟨E9, KA9, KB9, KX9⟩ ?_
  clear st E9 KA9 KB9 KX9
  rintro W9 ⟨E9, KA9, KB9, KX9⟩
  have la := KA9.six0
  have lb := KB9.six0
  go_wp2_with ((apply load_by rfl _ _ rfl _ rfl); (focus (with_reducible assumption)))
  refine (in_any a b 0 W9).mono ?_
  rintro e W10 ⟨rfl, q10⟩
  have E10 := E9.trans q10
  have KA10 := KA9.ext q10
  have KB10 := KB9.ext q10
  have KX10 := KX9.ext q10
  clear E9 KA9 KB9 KX9 q10 la lb
  have la := KA10.six0
  have lb := KB10.six0
  have hev : Pl.inErr a b 0 = Pl.inErr a b 128 := by unfold Pl.inErr; simp
  rw [hev]
  have hv0 : okS b = true → Pl.inVal a b 0 = true := fun hb => by
    unfold Pl.inVal Pl.inErr
    rw [HO.out, hb]
    simpa using inB_none a b
  have hv1 : okS b = true → Pl.inVal a b 128 = sixEq a b := fun hb => by
    unfold Pl.inVal Pl.inErr
    rw [HO.out, hb]
    simpa using inB_all HO.out hb
  have hverr : okS b = true → Pl.inErr a b 128 = 0 := fun hb => by
    unfold Pl.inErr
    rw [HO.out, hb]
    simp
  have hverr2 : okS b = false → Pl.inErr a b 128 = 1 := fun hb => by
    unfold Pl.inErr
    rw [hb]
    simp
  have HV := Lib.hid (And.intro hv0 (And.intro hv1 (And.intro hverr hverr2)))
  clear hev hv0 hv1 hverr hverr2
  go_wp2_with ((apply load_by rfl _ _ rfl _ rfl); (focus (with_reducible assumption)))
  refine (in_any a b 128 W10).mono ?_
  rintro e W11 ⟨rfl, q11⟩
  have E11 := E10.trans q11
  have KA11 := KA10.ext q11
  have KB11 := KB10.ext q11
  have KX11 := KX10.ext q11
  clear E10 KA10 KB10 KX10 q11 la lb
  have la := Lib.hid (fun m => (KA11.drewN m).six0)
  have lb := Lib.hid (fun m => (KB11.drewN m).six0)
  have lx := Lib.hid (fun m => (KX11.drewN m).six0)
  have le : ∀ W, (Op.equalIn 10000 23 (.agg a.cells) (.agg a.cells)).run Tryd.prog W = .ok true W := fun W => six_same a W
  have HE := Lib.hid E11
  obtain ⟨g0, g1, g2, g3⟩ := HV.out
  cases hb : okS b
  case false =>
    rw [g3 hb, erv_ne (by decide)]
    generalize Pl.inVal a b 0 = b0 at *
    generalize Pl.inVal a b 128 = b1 at *
    unfold errv
    clear g0 g1 g2 g3 HV KA11 KB11 KX11 E11
    go_wp2_with fail
    refine wp_region_quiet_lit (by kernel_rfl) (by kernel_rfl) ?_; repeat (go_big_quiet_step (fail))
    go_big_quiet_want; refine quiet_ld _ _ rfl rfl (by rintro _ ⟨m, rfl⟩; exact lx.out m) ?_; go_big_quiet_on; (try simp only [Act.put, List.setIfInBounds_toArray, List.set_cons_zero, List.set_cons_succ]); repeat (go_big_quiet_step (fail))
    go_big_quiet_want; refine quiet_ld _ _ rfl rfl (by rintro _ ⟨m, rfl⟩; exact la.out m) ?_; go_big_quiet_on; (try simp only [Act.put, List.setIfInBounds_toArray, List.set_cons_zero, List.set_cons_succ]); repeat (go_big_quiet_step (fail))
    refine wpQuiet_nil ?_; intro _ hw'; obtain ⟨nq, hw''⟩ := hw'; subst hw''
    go_wp2_with fail
    go_returns
    exact ⟨rfl, HE.out.drewN _⟩
  rw [g2 hb, g0 hb, g1 hb, erv_zero]
  have lq : ∀ W, (Op.equalIn 10000 23 (.agg a.cells) (.agg b.cells)).run Tryd.prog W = .ok (sixEq a b) W := fun W => run_sixEq a b 9998 W
  generalize sixEq a b = se at *
  clear g0 g1 g2 g3 HV KA11 KB11 KX11 E11
  go_wp2_with fail
  refine wp_region_quiet_lit (by kernel_rfl) (by kernel_rfl) ?_; repeat (go_big_quiet_step (fail))
  go_big_quiet_want; refine quiet_ld _ _ rfl rfl (by rintro _ ⟨m, rfl⟩; exact lx.out m) ?_; go_big_quiet_on; (try simp only [Act.put, List.setIfInBounds_toArray, List.set_cons_zero, List.set_cons_succ]); repeat (go_big_quiet_step (fail))
  go_big_quiet_want; refine quiet_ld _ _ rfl rfl (by rintro _ ⟨m, rfl⟩; exact la.out m) ?_; go_big_quiet_on; (try simp only [Act.put, List.setIfInBounds_toArray, List.set_cons_zero, List.set_cons_succ]); repeat (go_big_quiet_step (fail))
  refine wpQuiet_nil ?_; intro _ hw'; obtain ⟨nq, hw''⟩ := hw'; subst hw''
  have l1 := la.out nq
  have l2 := lb.out nq
  go_wp2_with ((apply load_by rfl _ _ rfl _ rfl); (focus (with_reducible assumption)))
  go_returns
  exact ⟨by cases se <;> rfl, HE.out.drewN _⟩
end Go.Proofs.YtefdhlmljocnkaaDoor
