/- The law PickMoves: without a server each flow that was not its own is where it was; in another order it is the same; who is picked is up. Conditions: none. -/
import Derived.Test.YtoaahiclmodcgaaOpenM
import Derived.Test.YtoaahiclmodcgaaPick
import Derived.Test.YtoaahiclmodcgaaBackOwn
import Derived.Deep.DeepCutAuto
namespace Go.Proofs.Ytoaahiclmodcgaa.pickMoves
open Go.ChangeShapes Go.WideShapes Go.ChangeAt Go.RowKit

def f0 : Flow := ⟨6, ⟨0, 0, 0, 0, 0, 0, 0, 0⟩, 0, ⟨0, 0, 0, 0, 0, 0, 0, 0⟩, 0⟩
def b1 : Pl.Back := ⟨1, 0, 0, 1, false, false⟩
def b2 : Pl.Back := ⟨2, 0, 0, 1, true, false⟩
theorem f0_ok : f0.Ok := ⟨.inl rfl, by rfl, by rfl, ⟨by decide, by decide⟩, ⟨by decide, by decide⟩⟩
theorem b12_ok : Pl.OkBacks [b1, b2] := by
  refine Pl.OkBacks.of (by decide) (fun b hb => ?_) (by simp [Pl.Apart, b1, b2])
  simp only [List.mem_cons, List.not_mem_nil, or_false] at hb
  rcases hb with rfl | rfl <;> (unfold Pl.Back.Num; decide)
theorem b12_best : Pl.best (Pl.worth 1 f0) [b1, b2] = some b2 := by rfl
set_option maxRecDepth 100000 in
set_option maxHeartbeats 1000000 in
/-- Pick answers no error only where all may be. -/
theorem pick_bad (seed : Int) (f : Flow) (a : Option Addr) (n c : Nat) (bs : List Pl.Back) (w : World) (hb : Backs w a n bs) (hnc : n ≤ c) (h : ¬ (Pl.OkBacks bs ∧ (0 ≤ seed ∧ seed < 2147483648) ∧ f.Ok)) :
    Calls Try.prog 8 #[.int .i64 seed, f.v, .slice a n c] w fun e w' => (∃ q : Int, e = .returned (.tuple #[backv Pl.back0, errv q])) ∧ Ext w w' := by
  have HB := Lib.hid hb
  have HH := Lib.hid h
  have K0 := Blk.new w 25 f.cells
  have E0 : Ext w (w.alloc (.cells f.cells 25)) := (Ext.refl w).alloc _
  clear hb h
  go_enter Try.func8, Try.ntmps8
  go_wp2_with fail
  refine at_world (fun W => Ext w W ∧ Blk W w.heap.size 25 f.cells ∧ Blk W (w.heap.size + 1) 28 #[.int .i64 Pl.back0.id, .int .i64 Pl.back0.addr, .int .i64 Pl.back0.door, .int .i64 Pl.back0.weight, .bool Pl.back0.up, .bool Pl.back0.drain]) ⟨E0.alloc _, K0.alloc _, Blk.at _ _ _ (by simp)⟩ ?_
  rintro W1 ⟨E1, k1, r1⟩
  by_cases hok : Pl.OkBacks bs
  · have hno : ¬ ((0 ≤ seed ∧ seed < 2147483648) ∧ ((0 : Int) ≤ 0 ∧ (0 : Int) ≤ 65535) ∧ f.Ok) := fun hh => HH.out ⟨hok, hh.1, hh.2.2⟩
    have HN := Lib.hid hno
    refine (pcheck_ok a n c bs W1 (HB.out.ext E1) hnc hok).mono ?_
    rintro e W2 ⟨rfl, q2⟩
    have k2 := k1.ext q2
    have r2 := r1.ext q2
    have E2 := E1.trans q2
    have l2 := k2.flow
    clear hno hok
    go_wp2_with ((apply load_by rfl _ _ rfl _ rfl); (focus (with_reducible assumption)))
    refine (score_bad seed f 0 W2 HN.out).mono ?_
    rintro e W3 ⟨rfl, q3⟩
    have r3 := r2.ext q3
    have E3 := E2.trans q3
    have rc := r3.cells
    have rf := r3.free
    clear l2
    unfold errv
    go_wp2_with fail
    have r5 : Blk _ (w.heap.size + 1) 28 #[.int .i64 Pl.back0.id, .int .i64 Pl.back0.addr, .int .i64 Pl.back0.door, .int .i64 Pl.back0.weight, .bool Pl.back0.up, .bool Pl.back0.drain] := (((((r3.put 0 (.int .i64 0)).put 1 (.int .i64 0)).put 2 (.int .i64 0)).put 3 (.int .i64 0)).put 4 (.bool false)).put 5 (.bool false)
    have rc5 := r5.cells
    refine bodyPost_ret (v := .tuple #[backv Pl.back0, errv 1]) (by simp [results, Try.results8, go_sem, rc5, errv]) rfl ⟨⟨1, rfl⟩, ?_⟩
    exact (((((E3.set (p := ⟨w.heap.size + 1, 0, none⟩) (by show _ ≤ w.heap.size + 1; omega) _).set (p := ⟨w.heap.size + 1, 1, none⟩) (by show _ ≤ w.heap.size + 1; omega) _).set (p := ⟨w.heap.size + 1, 2, none⟩) (by show _ ≤ w.heap.size + 1; omega) _).set (p := ⟨w.heap.size + 1, 3, none⟩) (by show _ ≤ w.heap.size + 1; omega) _).set (p := ⟨w.heap.size + 1, 4, none⟩) (by show _ ≤ w.heap.size + 1; omega) _).set (p := ⟨w.heap.size + 1, 5, none⟩) (by show _ ≤ w.heap.size + 1; omega) _
  · refine (pcheck_bad a n c bs W1 (HB.out.ext E1) hnc hok).mono ?_
    rintro e W3 ⟨⟨i, q, rfl⟩, q3⟩
    have r3 := r1.ext q3
    have E3 := E1.trans q3
    have rc := r3.cells
    have rf := r3.free
    clear hok
    unfold errv
    go_wp2_with fail
    have r5 : Blk _ (w.heap.size + 1) 28 #[.int .i64 Pl.back0.id, .int .i64 Pl.back0.addr, .int .i64 Pl.back0.door, .int .i64 Pl.back0.weight, .bool Pl.back0.up, .bool Pl.back0.drain] := (((((r3.put 0 (.int .i64 0)).put 1 (.int .i64 0)).put 2 (.int .i64 0)).put 3 (.int .i64 0)).put 4 (.bool false)).put 5 (.bool false)
    have rc5 := r5.cells
    refine bodyPost_ret (v := .tuple #[backv Pl.back0, errv q]) (by simp [results, Try.results8, go_sem, rc5, errv]) rfl ⟨⟨q, rfl⟩, ?_⟩
    exact (((((E3.set (p := ⟨w.heap.size + 1, 0, none⟩) (by show _ ≤ w.heap.size + 1; omega) _).set (p := ⟨w.heap.size + 1, 1, none⟩) (by show _ ≤ w.heap.size + 1; omega) _).set (p := ⟨w.heap.size + 1, 2, none⟩) (by show _ ≤ w.heap.size + 1; omega) _).set (p := ⟨w.heap.size + 1, 3, none⟩) (by show _ ≤ w.heap.size + 1; omega) _).set (p := ⟨w.heap.size + 1, 4, none⟩) (by show _ ≤ w.heap.size + 1; omega) _).set (p := ⟨w.heap.size + 1, 5, none⟩) (by show _ ≤ w.heap.size + 1; omega) _

theorem drop_pred (bs : List Pl.Back) (m : Nat) (hm : m < bs.length) : (bs.drop m).reverse = (bs.drop (m + 1)).reverse ++ [bs.getD m Pl.back0] := by
  rw [List.drop_eq_getElem_cons hm, List.reverse_cons]
  simp [List.getD, hm]

set_option maxRecDepth 100000 in
set_option maxHeartbeats 4000000 in
theorem walk (x0 : Int) (f1 : Flow) (a2 : Option Addr) (n2 c2 : Nat) (bs : List Pl.Back) (x3 : Int) (w : World) (_ : IsInt x0) (_ : f1.Is) (w2 : IsBacks w a2 n2 c2 bs) (_ : IsInt x3) :
    Calls Try.prog 3 #[.int .i64 x0, f1.v, .slice a2 n2 c2, .int .i64 x3] w fun e w' => e = .returned (.bool true) ∧ Below w.heap.size w w' := by
  obtain ⟨hb, hnc, hc⟩ := w2
  have HB := Lib.hid hb
  have K0 := Blk.new w 25 f1.cells
  have E0 := (Ext.refl w).alloc (.cells f1.cells 25)
  clear hb
  go_enter Try.func3, Try.ntmps3
  go_wp2_with fail
  refine at_world (fun W => Ext w W ∧ Blk W w.heap.size 25 f1.cells ∧ Backs W (some ⟨w.heap.size + 1, 0, none⟩) 2 [b1, b2]) ⟨E0.alloc _, K0.alloc _, (Blk.at _ _ _ (by simp)).backs2⟩ ?_
  rintro W1 ⟨E1, k1, s1⟩
  refine (pick_ok 1 f0 _ 2 2 [b1, b2] W1 s1 (Nat.le_refl _) b12_ok ⟨by omega, by omega⟩ f0_ok).mono ?_
  rintro e W2 ⟨hr, q2⟩
  rcases hr with ⟨hn, _⟩ | ⟨x, hx, rfl⟩
  · rw [b12_best] at hn; cases hn
  obtain rfl : b2 = x := by rw [b12_best] at hx; exact Option.some.inj hx
  have k2 := k1.ext q2
  have E2 := E1.trans q2
  unfold b2
  have l2 := k2.lt
  have l2f := (k2.alloc (.cells #[.int .i64 2, .int .i64 0, .int .i64 0, .int .i64 1, .bool true, .bool false] 28)).flow
  go_wp2_with ((apply load_by rfl _ _ rfl _ rfl); (focus (with_reducible assumption)))
  refine at_world (fun W => Ext w W ∧ Blk W w.heap.size 25 f1.cells) ⟨E2.alloc _, k2.alloc _⟩ ?_
  rintro W3 ⟨E3, k3⟩
  clear E0 E1 E2 K0 k1 k2 q2 s1 hx l2 l2f
  by_cases hall : Pl.OkBacks bs ∧ (0 ≤ x0 ∧ x0 < 2147483648) ∧ f1.Ok
  case neg =>
    refine (pick_bad x0 f1 a2 n2 c2 bs W3 (HB.out.ext E3) hnc hall).mono ?_
    rintro e W4 ⟨⟨q, rfl⟩, q4⟩
    have E5 := (E3.trans q4).alloc (.cells #[.int .i64 Pl.back0.id, .int .i64 Pl.back0.addr, .int .i64 Pl.back0.door, .int .i64 Pl.back0.weight, .bool Pl.back0.up, .bool Pl.back0.drain] 28)
    unfold errv Pl.back0
    go_wp2_with fail
    go_ret
    exact ⟨rfl, E5⟩
  obtain ⟨hok, hs, hf⟩ := hall
  refine (pick_ok x0 f1 a2 n2 c2 bs W3 (HB.out.ext E3) hnc hok hs hf).mono ?_
  rintro e W4 ⟨hr, q4⟩
  have k4 := k3.ext q4
  have E4 := E3.trans q4
  rcases hr with ⟨_, rfl⟩ | ⟨x, hx, rfl⟩
  · have E5 := E4.alloc (.cells #[.int .i64 Pl.back0.id, .int .i64 Pl.back0.addr, .int .i64 Pl.back0.door, .int .i64 Pl.back0.weight, .bool Pl.back0.up, .bool Pl.back0.drain] 28)
    unfold errv Pl.back0
    go_wp2_with fail
    go_ret
    exact ⟨rfl, E5⟩
  obtain ⟨hxm, hel⟩ := Pl.best_mem hx
  have hnum := hok.num hxm
  have HX := Lib.hid hx
  have HM := Lib.hid hxm
  have HO := Lib.hid hok
  have HS := Lib.hid hs
  have HF := Lib.hid hf
  have hn8 : n2 ≤ 8 := by rw [← HB.out.1]; exact hok.1
  have K5 := Blk.new W4 28 #[.int .i64 x.id, .int .i64 x.addr, .int .i64 x.door, .int .i64 x.weight, .bool x.up, .bool x.drain]
  have E5 := E4.alloc (.cells #[.int .i64 x.id, .int .i64 x.addr, .int .i64 x.door, .int .i64 x.weight, .bool x.up, .bool x.drain] 28)
  have k5 := k4.alloc (.cells #[.int .i64 x.id, .int .i64 x.addr, .int .i64 x.door, .int .i64 x.weight, .bool x.up, .bool x.drain] 28)
  have l4 := k4.lt
  clear hx hxm hok hs hf
  obtain ⟨xi, xa, xd, xw, xu, xr⟩ := x
  obtain ⟨hu, hd, hw⟩ := hel
  obtain rfl : xu = true := hu
  obtain rfl : xr = false := hd
  obtain ⟨⟨i0, i1⟩, ⟨d0, d1⟩, ⟨a0, a1⟩, ⟨w0', w1'⟩⟩ := hnum
  have hw1 : 1 ≤ xw := by
    have hw0 : xw ≠ 0 := hw
    have hw2 : 0 ≤ xw := w0'
    omega
  dsimp only at K5 E5 k5
  clear hw i0 i1 d0 d1 a0 a1 w0' w1'
  by_cases h1 : x3 < 0
  · go_wp2_with fail
    go_ret
    exact ⟨rfl, E5⟩
  by_cases h2 : (n2 : Int) ≤ x3
  · go_wp2_with fail
    go_ret
    exact ⟨rfl, E5⟩
  obtain ⟨k, rfl⟩ := Int.eq_ofNat_of_zero_le (show 0 ≤ x3 by omega)
  have hk : k < n2 := by omega
  obtain ⟨b, off, rfl, hbl, hc5⟩ := HB.out.at E5 (by omega)
  have HC5 := Lib.hid hc5
  have hkc : (k : Int) ≤ (c2 : Int) := by omega
  have hkc1 : (k : Int) + 1 ≤ (c2 : Int) := by omega
  have hkn1 : (k : Int) + 1 ≤ (n2 : Int) := by omega
  clear hc5 h1 h2
  go_wp2_with (at_builtin; refine Halt.out ?_)
  refine Halt.mk ?_
  refine appB rfl _ _ rfl (W4.heap.size + 1) _ [] rfl (OwnB.nil _ _) (some ⟨b, off, none⟩) k c2 (bs.take k) rfl ((HB.out.ext E5).take k (by omega)) (by simp; omega) (by simp) ?_
  intro v1 W5 o1 _ p1
  have E6 : Ext w W5 := Below.trans E5 (Below.mono p1 (by omega))
  have K6 := K5.below p1 (by omega)
  have k6 := k5.below p1 (by omega)
  have hz5 := p1.size
  simp only [World.size_alloc] at hz5
  rw [List.nil_append] at o1
  clear K5 k5 p1
  obtain ⟨AA, hAA, hsl⟩ := slice_backs b off n2 c2 (k + 1) ((k : Int) + 1) (by omega) (by omega)
  have ht := Backs.tail (HB.out.ext E6) (k + 1) c2 hnc
  rw [← hAA] at ht
  have HT := Lib.hid ht
  clear ht hAA
  go_wp2_with (at_builtin; refine Halt.out ?_)
  clear hsl
  refine Halt.mk ?_
  refine appB rfl _ _ rfl (W4.heap.size + 1) v1 (bs.take k) rfl o1 _ _ _ (bs.drop (k + 1)) rfl HT.out (by rw [List.length_take]; omega) (by omega) ?_
  intro v2 W6 o2 _ p2
  have hlo : OwnB W6 (W4.heap.size + 1) v2 (Pl.less bs k) := o2
  have E7 : Ext w W6 := Below.trans E6 (Below.mono p2 (by omega))
  have K7 := K6.below p2 (by omega)
  have k7 := k6.below p2 (by omega)
  have hz6 := p2.size
  clear K6 k6 p2 o1 o2
  go_wp2_with fail
  go_loopw [14, 15] (fun v i wr => ∃ (z : Int) (j : Nat), (j : Int) ≤ z + 1 ∧ z + 1 ≤ (j : Int) ∧ j ≤ n2 ∧ i = .int .i64 z ∧ OwnB wr W6.heap.size v (bs.drop j).reverse ∧ Below W6.heap.size W6 wr) (fun _ i _ => (intOf i + 1).toNat)
  case atStart => exact ⟨_, n2, by omega, by omega, Nat.le_refl _, rfl, by rw [← HB.out.1, List.drop_length]; exact OwnB.nil _ _, Below.refl _ _⟩
  case round =>
    obtain ⟨z, j, hj0, hj1, hjn, rfl, oB, bB⟩ := hrel
    by_cases hz : 0 ≤ z
    case pos =>
      obtain ⟨m, rfl⟩ := Int.eq_ofNat_of_zero_le hz
      obtain rfl : j = m + 1 := by omega
      have EB : Ext w wr := Below.trans E7 (Below.mono bB (by omega))
      obtain ⟨b', off', hbo, _, hcell⟩ := HB.out.at EB (by omega)
      simp only [Option.some.injEq, Addr.mk.injEq, and_true] at hbo
      obtain ⟨rfl, rfl⟩ := hbo
      obtain ⟨c0, c1, c2', c3, c4, c5⟩ := hcell m (by omega)
      have hdp := drop_pred bs m (by rw [HB.out.1]; omega)
      generalize bs.getD m Pl.back0 = y at *
      have HDP := Lib.hid hdp
      have hmn : (m : Int) < (n2 : Int) := by omega
      have HH := Lib.hid hj0
      clear hcell hdp hj0 hj1
      go_wp2_with (at_builtin; refine Halt.out ?_)
      refine Halt.mk ?_
      have bB2 : Below W6.heap.size W6 (wr.alloc (.cells #[.int .i64 y.id, .int .i64 y.addr, .int .i64 y.door, .int .i64 y.weight, .bool y.up, .bool y.drain] 28)) := bB.alloc bB.size _
      refine appB rfl _ _ rfl W6.heap.size _ _ rfl (oB.ext ((Ext.refl wr).alloc _)) _ _ _ [y] rfl (Blk.new wr _ _).backs1 (by rw [List.length_reverse, List.length_drop, HB.out.1]; omega) bB2.size ?_
      intro v' W' o' _ p'
      rw [← HDP.out] at o'
      have bB3 := bB2.trans p'
      clear c0 c1 c2' c3 c4 c5 bB bB2 p' oB
      go_wp2_with fail
      go_roundw
      case rel => exact ⟨_, m, by omega, by omega, by omega, rfl, o', bB3⟩
      case measure => simp [intOf] <;> omega
    case neg =>
      obtain rfl : j = 0 := by omega
      rw [List.drop_zero] at oB
      have E8 : Ext w wr := Below.trans E7 (Below.mono bB (by omega))
      have K8 := K7.below bB (by omega)
      have k8 := k7.below bB (by omega)
      have lo8 := hlo.keep bB (fun k hk => (hlo.lt k hk).2)
      obtain ⟨ra, rn, rc, rfl, hrc, rB⟩ := oB.read
      have l8 := k8.flow
      clear bB k7 K7 hlo
      go_wp2_with ((apply load_by rfl _ _ rfl _ rfl); (focus (with_reducible assumption)))
      have hrev : Pl.OkBacks bs.reverse := Pl.OkBacks.of (by rw [List.length_reverse]; exact HO.out.1) (fun y hy => HO.out.num (List.mem_reverse.1 hy)) HO.out.apart.reverse
      refine (pick_ok x0 f1 ra rn rc bs.reverse wr rB hrc hrev HS.out HF.out).mono ?_
      rintro e W9 ⟨hr, q9⟩
      have hbr := Pl.best_sub (m := bs.reverse) HO.out.apart HX.out (fun y hy => List.mem_reverse.1 hy) (List.mem_reverse.2 HM.out)
      rcases hr with ⟨hn, _⟩ | ⟨y, hy, rfl⟩
      · rw [hbr] at hn; cases hn
      obtain rfl := Option.some.inj (hbr.symm.trans hy)
      have E9 := E8.trans q9
      have K9 := K8.ext q9
      have k9 := k8.ext q9
      have lo9 := lo8.ext q9
      obtain ⟨sa, sn, sc, rfl, hsc, sB⟩ := lo9.read
      have C9 := K9.cells
      have L9 := K9.lt
      have lk9 := k9.lt
      have l10 := (k9.alloc (.cells #[.int .i64 xi, .int .i64 xa, .int .i64 xd, .int .i64 xw, .bool true, .bool false] 28)).flow
      clear hy hbr hrev l8 rB q9
      go_wp2_with ((apply load_by rfl _ _ rfl _ rfl); (focus (with_reducible assumption)))
      refine at_world (fun W => Ext w W ∧ Blk W W4.heap.size 28 #[.int .i64 xi, .int .i64 xa, .int .i64 xd, .int .i64 xw, .bool true, .bool false] ∧ Backs W sa sn (Pl.less bs k)) ⟨E9.alloc _, K9.alloc _, sB.ext ((Ext.refl W9).alloc _)⟩ ?_
      rintro W10 ⟨E10, K10, sB10⟩
      have hsub := Pl.less_sub bs k
      have hless : Pl.OkBacks (Pl.less bs k) := Pl.OkBacks.of (Nat.le_trans hsub.length_le HO.out.1) (fun y hy => HO.out.num (hsub.subset hy)) (HO.out.apart.sub hsub)
      refine (pick_ok x0 f1 sa sn sc (Pl.less bs k) W10 sB10 hsc hless HS.out HF.out).mono ?_
      rintro e W11 ⟨hr, q11⟩
      have E11 := E10.trans q11
      have K11 := K10.ext q11
      have hbk : bs[k]? = some (bs.getD k Pl.back0) := by
        have hkl : k < bs.length := by rw [HB.out.1]; exact hk
        simp [List.getD, hkl]
      obtain ⟨b', off', hbo, _, hcell⟩ := HB.out.at E11 (by omega)
      simp only [Option.some.injEq, Addr.mk.injEq, and_true] at hbo
      obtain ⟨rfl, rfl⟩ := hbo
      obtain ⟨c0, -⟩ := hcell k hk
      have hbw : b < w.heap.size := hbl
      have hkn : (k : Int) < (n2 : Int) := by omega
      have hnot := fun y hy => Pl.less_not (y := y) HO.out.apart k hbk hy
      have hmem := Pl.less_mem k hbk HM.out
      have heqx := fun h => HO.out.apart.eq (List.mem_of_getElem? hbk) HM.out h
      generalize bs.getD k Pl.back0 = z at *
      have HNOT := Lib.hid hnot
      have HMEM := Lib.hid hmem
      have HEQ := Lib.hid heqx
      have HR := Lib.hid hr
      have C11 := K11.cells
      have L11 := K11.lt
      have hE12 := E11.alloc (.cells #[.int .i64 Pl.back0.id, .int .i64 Pl.back0.addr, .int .i64 Pl.back0.door, .int .i64 Pl.back0.weight, .bool Pl.back0.up, .bool Pl.back0.drain] 28)
      have lz : W4.heap.size < W9.heap.size := L9
      clear hcell hbk hnot hmem heqx hr sB10 sB lo9 lo8 hless hsub K9 k9 k8 K8 C9 l10 K10 E8 E7 E6 E5 E4 q4 l4 k4
      have hb11 : b < W11.heap.size := by have := E11.size; omega
      by_cases hid : z.id = xi
      case pos =>
        have hzx : (z.id == xi) = true := by simpa using hid
        have HID := Lib.hid hid
        clear hid
        rcases HR.out with ⟨_, rfl⟩ | ⟨y, hy, rfl⟩
        · have hE12 := E11.alloc (.cells #[.int .i64 Pl.back0.id, .int .i64 Pl.back0.addr, .int .i64 Pl.back0.door, .int .i64 Pl.back0.weight, .bool Pl.back0.up, .bool Pl.back0.drain] 28)
          unfold errv Pl.back0
          go_wp2_with fail
          go_quiet (fail)
          go_wp2_with fail
          go_ret
          exact ⟨rfl, hE12.drewN _⟩
        · have hE12 := E11.alloc (.cells #[.int .i64 y.id, .int .i64 y.addr, .int .i64 y.door, .int .i64 y.weight, .bool y.up, .bool y.drain] 28)
          have hne : (y.id != xi) = true := by
            have := HNOT.out y (Pl.best_mem hy).1
            rw [HID.out] at this
            simpa using this
          clear hy
          go_wp2_with fail
          go_quiet (fail)
          go_wp2_with fail
          go_ret
          exact ⟨rfl, hE12.drewN _⟩
      case neg =>
        have hzx : (z.id == xi) = false := by simpa using hid
        have hxl : (⟨xi, xa, xd, xw, true, false⟩ : Pl.Back) ∈ Pl.less bs k := HMEM.out (fun h => hid (by rw [← h]))
        have hbl2 := Pl.best_sub (m := Pl.less bs k) HO.out.apart HX.out (fun y hy => (Pl.less_sub bs k).subset hy) hxl
        clear hid
        rcases HR.out with ⟨hn, _⟩ | ⟨y, hy, rfl⟩
        · rw [hbl2] at hn; cases hn
        obtain rfl := Option.some.inj (hbl2.symm.trans hy)
        have hE13 := E11.alloc (.cells #[.int .i64 xi, .int .i64 xa, .int .i64 xd, .int .i64 xw, .bool true, .bool false] 28)
        clear hy hbl2 hxl
        go_wp2_with fail
        go_quiet (fail)
        go_wp2_with fail
        go_ret
        exact ⟨rfl, hE13.drewN _⟩

set_option maxRecDepth 100000 in
theorem lifted (os : Os) (started : os.Started) (H : Type) (enc : TypeId × Value → H) :
    ReturnsInHanded {} Try.checked os 3 .any (Rows.pickMovesSpec.pre6 enc Try.prog Try.f3 Rows.pickMovesRow.domain false) (Rows.pickMovesSpec.post enc Try.prog Try.f3 false true false false) := by
  refine returnsInHanded_of_change (C := Try.checked) own started (by kernel_rfl) Try.func3
    (ChangeSpec.witness6 (enc := enc) (C := Try.checked) false ⟨#[], #[.int .i64 0, .agg #[.int .i64 0, .int .i64 0, .int .i64 0, .int .i64 0, .int .i64 0, .int .i64 0, .int .i64 0, .int .i64 0, .int .i64 0, .int .i64 0, .int .i64 0, .int .i64 0, .int .i64 0, .int .i64 0, .int .i64 0, .int .i64 0, .int .i64 0, .int .i64 0, .int .i64 0], .slice none 0 0, .int .i64 0], []⟩ 8 (by kernel_rfl) (by kernel_rfl) (by kernel_rfl) (by kernel_rfl)) ?_
  intro W base args ds gs before hval0 hW hcnd _
  have hval : ∀ (j : Nat) t v, Try.f3.params[j]? = some t → args[j]? = some v → Value.okWide Try.prog W .any base t v := hval0
  have hW' := hW
  obtain ⟨p, q, hA0, hV, rfl, hfz, hnd⟩ := hW
  have hA : DataW.TrodAll enc Try.prog W 0 (fun _ => true) true Try.f3.params.toList args.toList ds p := hA0
  rw [Try.params3] at hA hval
  obtain ⟨v0, vs0, d0, ds0, p0, q0, hargs, rfl, rfl, h0, r0⟩ := trodAll_cons hA
  obtain ⟨v1, vs1, d1, ds1, p1, q1, rfl, rfl, rfl, h1, r1⟩ := trodAll_cons r0
  obtain ⟨v2, vs2, d2, ds2, p2, q2, rfl, rfl, rfl, h2, r2⟩ := trodAll_cons r1
  obtain ⟨v3, vs3, d3, ds3, p3, q3, rfl, rfl, rfl, h3, r3⟩ := trodAll_cons r2
  obtain ⟨rfl, rfl, rfl⟩ := trodAll_nil r3
  obtain rfl : args = #[v0, v1, v2, v3] := by cases args; simp_all
  obtain ⟨rfl, rfl⟩ := trodVars_none hV
  have lt0 : ∀ x ∈ p0, x.block < W.heap.size := by obtain ⟨m, hm⟩ := h0; exact DataW.trod_lt m _ _ _ hm
  have k0 := h0
  obtain ⟨x0, rfl, _, _, w0'⟩ := open_int Try.underlying3 (hval 0 3 v0 rfl rfl) h0
  have w0 : IsInt x0 := wf_i64 w0'
  have lt1 : ∀ x ∈ p1, x.block < W.heap.size := by obtain ⟨m, hm⟩ := h1; exact DataW.trod_lt m _ _ _ hm
  have k1 := h1
  obtain ⟨f1, rfl, w1⟩ := open_flow (hval 1 25 v1 rfl rfl) h1
  have lt2 : ∀ x ∈ p2, x.block < W.heap.size := by obtain ⟨m, hm⟩ := h2; exact DataW.trod_lt m _ _ _ hm
  have k2 := h2
  obtain ⟨a2, n2, c2, rfl⟩ := okWide_slice Try.underlying26 (hval 2 26 v2 rfl rfl)
  obtain ⟨b2, w2⟩ := open_backs h2
  have lt3 : ∀ x ∈ p3, x.block < W.heap.size := by obtain ⟨m, hm⟩ := h3; exact DataW.trod_lt m _ _ _ hm
  have k3 := h3
  obtain ⟨x3, rfl, _, _, w3'⟩ := open_int Try.underlying3 (hval 3 3 v3 rfl rfl) h3
  have w3 : IsInt x3 := wf_i64 w3'
  clear hA0 hval0
  refine (walk x0 f1 a2 n2 c2 b2 x3 W w0 w1 w2 w3).mono fun e W' ⟨he, bel⟩ => ?_
  subst he
  exact ⟨_, rfl, _, _, _, [], _, [], hW', trodAll_mk1 (shut_bool Try.underlying4 _), (trodAll_cons_mk (Below.trod laidOut (by kernel_rfl) (of_decide_eq_true (by kernel_rfl)) k0 bel lt0) (trodAll_cons_mk (Below.trod laidOut (by kernel_rfl) (of_decide_eq_true (by kernel_rfl)) k1 bel lt1) (trodAll_cons_mk (Below.trod laidOut (by kernel_rfl) (of_decide_eq_true (by kernel_rfl)) k2 bel lt2) (trodAll_cons_mk (Below.trod laidOut (by kernel_rfl) (of_decide_eq_true (by kernel_rfl)) k3 bel lt3) trodAll_mk0)))), rfl, bel.frame _, fun h => by cases h⟩

theorem over : Rows.pickMovesRow.holds Try.pinned (OpenSpec.ofChange Rows.pickMovesSpec) :=
  OpenClaim.holds_of_wide 3 Try.f3 rfl rfl rfl rfl rfl rfl rfl ⟨rfl, rfl, rfl, rfl, rfl⟩ rfl rfl rfl rfl rfl (by kernel_rfl) Try.func3 (by kernel_rfl)
    (of_decide_eq_true (by kernel_rfl)) (by unfold Func.isWrapper; first | (rw [if_pos (by decide +kernel)]; kernel_rfl) | (rw [if_neg (by decide +kernel)]; exact ⟨rfl, rfl⟩))
    (fun os started H enc _ => lifted os started H enc)

/-- THE STATEMENT. -/
theorem proved : Rows.PickMovesSaid := over
#print axioms proved
end Go.Proofs.Ytoaahiclmodcgaa.pickMoves
