/- The law Pack6Back: what is written of packets of sixes is read; cut off, or with more behind, it is none. Conditions: the row's own: errors.errorType holds its handle (tied). -/
import Derived.Test.YtlgdmipejgggkaaDoorFrameD
import Derived.Test.YtlgdmipejgggkaaDoorOpen6p
import Derived.Test.YtlgdmipejgggkaaDoorIp6l
import Derived.Test.YtlgdmipejgggkaaDoorIp6k
import Derived.Test.YtlgdmipejgggkaaDoorPack6s
import Derived.Test.YtlgdmipejgggkaaDoorSame
import Derived.Test.YtlgdmipejgggkaaDoorTie
import Derived.Test.YtlgdmipejgggkaaDoorCards
import Derived.SevenTiedAt
namespace Go.Proofs.YtlgdmipejgggkaaDoor.pack6Back
open Go.ChangeShapes Go.WideShapes Go.ChangeAt Go.RowKit

theorem sto6c {w : World} {R : Nat} (k : Blk w R 39 #[.int .i64 0, .int .i64 0, .int .i64 0, .int .i64 0, .int .i64 0, .int .i64 0, .int .i64 0, .int .i64 0, .int .i64 0, .int .i64 0, .int .i64 0, .int .i64 0, .int .i64 0, .int .i64 0, .int .i64 0, .int .i64 0, .int .i64 0, .int .i64 0, .slice none 0 0]) (p : P6) (a : Option Addr) (n c : Nat) :
    (Instr.storeAt 39 (.pointer (some ⟨R, 0, none⟩)) (.agg (p.cells (.slice a n c)))).run Tryd.prog w = .ok () (w.setRow R (p.cells (.slice a n c))) := k.store rfl Tryd.sizeP6 (p.one a n c)
def p1 : P6 := ⟨⟨0, 0, 0, 0, 0, 0, 0, 0⟩, ⟨0, 0, 0, 0, 0, 0, 0, 0⟩, 1, 17⟩

set_option maxRecDepth 100000 in
set_option maxHeartbeats 2000000 in
theorem walk (p : P6) (a0 : Option Addr) (n0 c0 : Nat) (x0 : List Int) (x1 x2 : Int) (a3 : Option Addr) (n3 c3 : Nat) (x3 : List Int) (w : World) (hg : Handle w) (w0 : IsP6 w p a0 n0 c0 x0) (w1 : IsInt x1) (w2 : 0 ≤ x2 ∧ x2 ≤ 255) (w3 : IsBytes w a3 n3 c3 x3) :
    Calls Tryd.prog 5 #[p.v (.slice a0 n0 c0), .int .i64 x1, .int .u8 x2, .slice a3 n3 c3] w fun e w' => e = .returned (.bool true) ∧ Below w.heap.size w w' := by
  obtain ⟨⟨hb0, hB0, hnc0, _⟩, _⟩ := w0
  obtain ⟨hb3, hB3, hnc3, _⟩ := w3
  have HG := Lib.hid hg
  have H0 := Lib.hid hb0
  have HB0 := Lib.hid hB0
  have H3 := Lib.hid hb3
  have HB3 := Lib.hid hB3
  have HX1 := Lib.hid w1
  have HX2 := Lib.hid w2
  have K0 := Blk.new w 39 (p.cells (.slice a0 n0 c0))
  have E0 : Ext w (w.alloc (.cells (p.cells (.slice a0 n0 c0)) 39)) := (Ext.refl w).alloc _
  clear hg hb0 hB0 hb3 hB3 w1 w2
  go_enter Tryd.func5, Tryd.ntmps5
  go_wp2_with fail
  refine (encode6_ok p1 none 0 0 [] _ (by decide) Ints.nil).mono ?_
  rintro e W1 ⟨v1, rfl, o1, q1⟩
  obtain ⟨g1, m1, k1, rfl, hm1, hmk1, _, hgl1, hcell1, _⟩ := o1.shape (by rw [Pl.enc6_length]; omega)
  obtain rfl : 40 = m1 := by rw [← hm1, Pl.enc6_length]; rfl
  have c10 : W1.cell? ⟨g1, 0, none⟩ = some (.int .u8 96) := hcell1 0 (by omega)
  have K1 := K0.ext q1
  have E1 := E0.trans q1
  clear o1 hcell1 hm1 K0 E0 q1
  go_wp2_with fail
  clear c10
  by_cases hI : Pl.Is6 x3
  case' neg =>
    refine (decode6_bad a3 n3 c3 x3 W1 (H3.out.ext E1) HB3.out hI).mono ?_
    rintro e W2 ⟨hbad, q2⟩
    unfold Bad6 errv at hbad
    subst hbad
    have KZ := Blk.new W2 39 #[.int .i64 0, .int .i64 0, .int .i64 0, .int .i64 0, .int .i64 0, .int .i64 0, .int .i64 0, .int .i64 0, .int .i64 0, .int .i64 0, .int .i64 0, .int .i64 0, .int .i64 0, .int .i64 0, .int .i64 0, .int .i64 0, .int .i64 0, .int .i64 0, .slice none 0 0]
    have s2 := sto60 KZ
    have hne : w.heap.size ≠ W2.heap.size := by have := (K1.ext q2).lt; omega
    have K2 := ((K1.ext q2).alloc (.cells #[.int .i64 0, .int .i64 0, .int .i64 0, .int .i64 0, .int .i64 0, .int .i64 0, .int .i64 0, .int .i64 0, .int .i64 0, .int .i64 0, .int .i64 0, .int .i64 0, .int .i64 0, .int .i64 0, .int .i64 0, .int .i64 0, .int .i64 0, .int .i64 0, .slice none 0 0] 39)).farRow hne #[.int .i64 0, .int .i64 0, .int .i64 0, .int .i64 0, .int .i64 0, .int .i64 0, .int .i64 0, .int .i64 0, .int .i64 0, .int .i64 0, .int .i64 0, .int .i64 0, .int .i64 0, .int .i64 0, .int .i64 0, .int .i64 0, .int .i64 0, .int .i64 0, .slice none 0 0]
    have E2 := ((E1.trans q2).alloc (.cells #[.int .i64 0, .int .i64 0, .int .i64 0, .int .i64 0, .int .i64 0, .int .i64 0, .int .i64 0, .int .i64 0, .int .i64 0, .int .i64 0, .int .i64 0, .int .i64 0, .int .i64 0, .int .i64 0, .int .i64 0, .int .i64 0, .int .i64 0, .int .i64 0, .slice none 0 0] 39)).row (E1.trans q2).size #[.int .i64 0, .int .i64 0, .int .i64 0, .int .i64 0, .int .i64 0, .int .i64 0, .int .i64 0, .int .i64 0, .int .i64 0, .int .i64 0, .int .i64 0, .int .i64 0, .int .i64 0, .int .i64 0, .int .i64 0, .int .i64 0, .int .i64 0, .int .i64 0, .slice none 0 0]
    clear K1 E1 q2 KZ
    go_upto_region 9 with ((apply store_by rfl _ _ _ rfl _ rfl); (focus (with_reducible assumption)); (focus rfl))
    refine at_worldD (fun W => Ext w W ∧ Blk W w.heap.size 39 (p.cells (.slice a0 n0 c0))) ⟨E2, K2⟩ ?_
    clear K2 E2 s2
  case' pos =>
    refine (decode6_ok a3 n3 c3 x3 W1 (H3.out.ext E1) HB3.out hnc3 hI).mono ?_
    rintro e W2 ⟨v2, rfl, o2, q2⟩
    have hq := Pl.dec6_enc HB3.out hI
    have hqf := Pl.dec6_fault HB3.out hI
    generalize Pl.dec6 x3 = q at *
    obtain ⟨a2, n2, c2, rfl, _, r2⟩ := o2.read
    rw [r2.len] at hqf
    have HQ := Lib.hid hq
    have HQF := Lib.hid hqf
    have KZ := Blk.new W2 39 #[.int .i64 0, .int .i64 0, .int .i64 0, .int .i64 0, .int .i64 0, .int .i64 0, .int .i64 0, .int .i64 0, .int .i64 0, .int .i64 0, .int .i64 0, .int .i64 0, .int .i64 0, .int .i64 0, .int .i64 0, .int .i64 0, .int .i64 0, .int .i64 0, .slice none 0 0]
    have s2 := sto6c KZ q a2 n2 c2
    have hne : w.heap.size ≠ W2.heap.size := by have := (K1.ext q2).lt; omega
    have K2 := ((K1.ext q2).alloc (.cells #[.int .i64 0, .int .i64 0, .int .i64 0, .int .i64 0, .int .i64 0, .int .i64 0, .int .i64 0, .int .i64 0, .int .i64 0, .int .i64 0, .int .i64 0, .int .i64 0, .int .i64 0, .int .i64 0, .int .i64 0, .int .i64 0, .int .i64 0, .int .i64 0, .slice none 0 0] 39)).farRow hne (q.cells (.slice a2 n2 c2))
    have E2 := ((E1.trans q2).alloc (.cells #[.int .i64 0, .int .i64 0, .int .i64 0, .int .i64 0, .int .i64 0, .int .i64 0, .int .i64 0, .int .i64 0, .int .i64 0, .int .i64 0, .int .i64 0, .int .i64 0, .int .i64 0, .int .i64 0, .int .i64 0, .int .i64 0, .int .i64 0, .int .i64 0, .slice none 0 0] 39)).row (E1.trans q2).size (q.cells (.slice a2 n2 c2))
    have r3 := r2.ext (((Ext.refl W2).alloc (.cells #[.int .i64 0, .int .i64 0, .int .i64 0, .int .i64 0, .int .i64 0, .int .i64 0, .int .i64 0, .int .i64 0, .int .i64 0, .int .i64 0, .int .i64 0, .int .i64 0, .int .i64 0, .int .i64 0, .int .i64 0, .int .i64 0, .int .i64 0, .int .i64 0, .slice none 0 0] 39)).row (Nat.le_refl _) (q.cells (.slice a2 n2 c2)))
    have lq := (KZ.row (q.cells (.slice a2 n2 c2))).p6
    clear K1 E1 q2 o2 r2 hq hqf KZ
    go_wp2_with (first | ((apply load_by rfl _ _ rfl _ rfl); (focus (with_reducible assumption))) | ((apply store_by rfl _ _ _ rfl _ rfl); (focus (with_reducible assumption)); (focus rfl)))
    refine (encode6_ok q a2 n2 c2 (x3.drop 40) _ HQF.out r3).mono ?_
    rintro e W3 ⟨v3, rfl, o3, q3⟩
    rw [HQ.out] at o3
    obtain ⟨b3, m3, k3, rfl, _, r4⟩ := o3.read
    have K3 := K2.ext q3
    have E3 := E2.trans q3
    have z1 := conv_str (c := k3) r4
    have z2 := conv_str (c := c3) (H3.out.ext E3)
    generalize strOfNums x3 = z at z1 z2
    clear K2 E2 q3 o3 r4 lq r3 s2
    go_upto_region 9 with (fail)
    refine at_worldD (fun W => Ext w W ∧ Blk W w.heap.size 39 (p.cells (.slice a0 n0 c0))) ⟨E3, K3⟩ ?_
    clear K3 E3 z1 z2
  all_goals
    rintro W5 ⟨E5, K5⟩
    have l5 := K5.p6
    by_cases hf : p.fault n0 = 0
    case neg =>
      have hc := encode6_bad p a0 n0 c0 W5 hf
      rw [erv_ne hf] at hc
      generalize p.fault n0 = q at *
      have HC := Lib.hid hc
      clear hf hc
      unfold errv at HC
      go_wp2_with ((apply load_by rfl _ _ rfl _ rfl); (focus (with_reducible assumption)))
      refine HC.out.mono ?_
      rintro e W6 ⟨rfl, q6⟩
      go_wp2_with fail
      go_ret
      exact ⟨rfl, E5.trans q6⟩
    obtain ⟨hgood, hn0⟩ := P6.fault_zero hf
    have HF := Lib.hid hf
    have HGD := Lib.hid hgood
    clear hf hgood
    go_wp2_with ((apply load_by rfl _ _ rfl _ rfl); (focus (with_reducible assumption)))
    refine (encode6_ok p a0 n0 c0 x0 W5 HF.out (H0.out.ext E5)).mono ?_
    rintro e W6 ⟨v6, rfl, o6, q6⟩
    have hx0 := H0.out.len
    obtain ⟨g6, m6, k6, rfl, hm6, hmk6, hg60, hgl6, _, _⟩ := o6.shape (by rw [Pl.enc6_length]; omega)
    obtain ⟨_, _, _, hpv, _, r6⟩ := o6.read
    cases hpv
    rw [Pl.enc6_length, hx0] at hm6
    have HIS := Lib.hid (Pl.enc6_is (p := p) (b := x0) (by omega))
    have HIB := Lib.hid (Pl.enc6_isB HGD.out (by omega) HB0.out)
    have R6 := Lib.hid r6
    have E6 := E5.trans q6
    have K6 := K5.ext q6
    clear l5 o6 q6 E5 K5 r6
    go_wp2_with fail
    refine (decode6_ok (some ⟨g6, 0, none⟩) m6 k6 (Pl.enc6 p x0) W6 R6.out HIB.out hmk6 HIS.out).mono ?_
    rintro e W7 ⟨v7, rfl, o7, q7⟩
    rw [Pl.enc6_dec]
    rw [Pl.enc6_drop] at o7
    obtain ⟨a7, n7, k7, rfl, _, r7⟩ := o7.read
    have E7 := E6.trans q7
    have KZ := Blk.new W7 39 #[.int .i64 0, .int .i64 0, .int .i64 0, .int .i64 0, .int .i64 0, .int .i64 0, .int .i64 0, .int .i64 0, .int .i64 0, .int .i64 0, .int .i64 0, .int .i64 0, .int .i64 0, .int .i64 0, .int .i64 0, .int .i64 0, .int .i64 0, .int .i64 0, .slice none 0 0]
    have s7 := sto6c KZ p a7 n7 k7
    have hne7 : w.heap.size ≠ W7.heap.size := by have := (K6.ext q7).lt; omega
    have K8 := ((K6.ext q7).alloc (.cells #[.int .i64 0, .int .i64 0, .int .i64 0, .int .i64 0, .int .i64 0, .int .i64 0, .int .i64 0, .int .i64 0, .int .i64 0, .int .i64 0, .int .i64 0, .int .i64 0, .int .i64 0, .int .i64 0, .int .i64 0, .int .i64 0, .int .i64 0, .int .i64 0, .slice none 0 0] 39)).farRow hne7 (p.cells (.slice a7 n7 k7))
    have X8 := ((Ext.refl W7).alloc (.cells #[.int .i64 0, .int .i64 0, .int .i64 0, .int .i64 0, .int .i64 0, .int .i64 0, .int .i64 0, .int .i64 0, .int .i64 0, .int .i64 0, .int .i64 0, .int .i64 0, .int .i64 0, .int .i64 0, .int .i64 0, .int .i64 0, .int .i64 0, .int .i64 0, .slice none 0 0] 39)).row (Nat.le_refl _) (p.cells (.slice a7 n7 k7))
    have E8 := E7.trans X8
    have r8 := r7.ext X8
    have ly := (KZ.row (p.cells (.slice a7 n7 k7))).p6
    have lp := K8.p6
    have q68 := q7.trans X8
    have hZ := Ext.size q68
    clear K6 E6 o7 r7 KZ E7 q7 X8
    go_wp2_with (first | ((apply load_by rfl _ _ rfl _ rfl); (focus (with_reducible assumption))) | ((apply store_by rfl _ _ _ rfl _ rfl); (focus (with_reducible assumption)); (focus rfl)))
    refine at_world (fun W => Ext w W ∧ Ext W6 W ∧ Ints .u8 W a7 n7 x0) ⟨E8, q68, r8⟩ ?_
    clear ly lp s7 E8 q68 r8 K8 hZ
    rintro W9 ⟨E9, q9, r9⟩
    refine (pack6s_yes p a7 a0 n7 k7 n0 c0 x0 W9 r9 (H0.out.ext E9)).mono ?_
    rintro e W10 ⟨rfl, q10⟩
    have E10 := E9.trans q10
    have Q10 := q9.trans q10
    clear r9 E9 q9 q10
    go_wp2_with fail
    refine (pick_any x1 m6 W10 HX1.out (by omega)).mono ?_
    rintro e w' ⟨k, rfl, ⟨hk0, hk1⟩, rfl⟩
    obtain ⟨j, rfl⟩ := Int.eq_ofNat_of_zero_le hk0
    have hsl := slice_head g6 0 m6 k6 j (j : Int) rfl (by omega)
    go_wp2_with fail
    refine (decode6_bad (some ⟨g6, 0, none⟩) j k6 ((Pl.enc6 p x0).take j) W10 ((R6.out.ext Q10).front j (by omega)) (HIB.out.take j) (Pl.enc6_cut j (by rw [Pl.enc6_length, hx0]; omega))).mono ?_
    rintro e W11 ⟨hbad, q11⟩
    unfold Bad6 at hbad
    subst hbad
    have E11 := E10.trans q11
    have Q11 := Q10.trans q11
    clear hsl E10 Q10 q11
    unfold errv
    go_wp2_with (at_builtin; refine Halt.out ?_)
    refine Halt.mk ?_
    refine app rfl _ _ rfl W11.heap.size _ [] rfl (Own.nil _ _) (some ⟨g6, 0, none⟩) m6 k6 (Pl.enc6 p x0) rfl (R6.out.ext Q11) (by simp; omega) (Nat.le_refl _) ?_
    intro v12 W12 o12 b12
    rw [List.nil_append] at o12
    have E12 : Ext w W12 := Ext.trans E11 b12
    have hz12 : W11.heap.size ≤ W12.heap.size := Below.size b12
    go_wp2_with (at_builtin; refine Halt.out ?_)
    refine Halt.mk ?_
    refine app rfl _ _ rfl W11.heap.size v12 (Pl.enc6 p x0) rfl (o12.ext ((Ext.refl W12).alloc _)) (some ⟨W12.heap.size, 0, none⟩) 1 1 [x2] rfl (ints_new W12 _ _ _ _ _ rfl) (by rw [Pl.enc6_length]; omega) (by simp; omega) ?_
    intro v13 W13 o13 b13
    have E13 : Ext w W13 := Ext.trans E11 (Below.trans b12 (Below.trans (Below.alloc (Below.refl _ _) hz12 _) b13))
    obtain ⟨a13, n13, k13, rfl, _, r13⟩ := o13.read
    have HR13 := Lib.hid r13
    clear E11 E12 o12 o13 b12 b13 Q11 r13
    go_wp2_with fail
    refine (decode6_bad a13 n13 k13 (Pl.enc6 p x0 ++ [x2]) W13 HR13.out (HIB.out.append (fun y hy => by simp only [List.mem_cons, List.not_mem_nil, or_false] at hy; subst hy; exact HX2.out)) (Pl.enc6_more x2)).mono ?_
    rintro e W14 ⟨hbad, q14⟩
    unfold Bad6 errv at hbad
    subst hbad
    have KZ := Blk.new W14 39 #[.int .i64 0, .int .i64 0, .int .i64 0, .int .i64 0, .int .i64 0, .int .i64 0, .int .i64 0, .int .i64 0, .int .i64 0, .int .i64 0, .int .i64 0, .int .i64 0, .int .i64 0, .int .i64 0, .int .i64 0, .int .i64 0, .int .i64 0, .int .i64 0, .slice none 0 0]
    have s14 := sto60 KZ
    have E14 := E13.trans q14
    have E15 := (E14.alloc (.cells #[.int .i64 0, .int .i64 0, .int .i64 0, .int .i64 0, .int .i64 0, .int .i64 0, .int .i64 0, .int .i64 0, .int .i64 0, .int .i64 0, .int .i64 0, .int .i64 0, .int .i64 0, .int .i64 0, .int .i64 0, .int .i64 0, .int .i64 0, .int .i64 0, .slice none 0 0] 39)).row E14.size #[.int .i64 0, .int .i64 0, .int .i64 0, .int .i64 0, .int .i64 0, .int .i64 0, .int .i64 0, .int .i64 0, .int .i64 0, .int .i64 0, .int .i64 0, .int .i64 0, .int .i64 0, .int .i64 0, .int .i64 0, .int .i64 0, .int .i64 0, .int .i64 0, .slice none 0 0]
    clear E13 E14 q14
    go_wp2_with ((apply store_by rfl _ _ _ rfl _ rfl); (focus (with_reducible assumption)); (focus rfl))
    refine at_world (fun W => Ext w W) E15 ?_
    clear s14 KZ E15
    rintro W16 E16
    refine (error_err 5 5 W16 (HG.out.below E16)).mono ?_
    rintro e W17 ⟨rfl, b17⟩
    have E17 : Ext w W17 := Ext.trans E16 b17
    unfold errv at *
    go_wp2_with fail
    refine (error_err 5 5 W17 (HG.out.below E17)).mono ?_
    rintro e W18 ⟨rfl, b18⟩
    have E18 : Ext w W18 := Ext.trans E17 b18
    go_wp2_with fail
    go_ret
    exact ⟨rfl, E18⟩
set_option maxRecDepth 100000 in
theorem lifted (os : Os) (started : os.Started) (H : Type) (enc : TypeId × Value → H) :
    ReturnsInHanded {} Tryd.checked os 5 .any (fun w args => (Rows.pack6BackSpec.pre enc Tryd.prog Tryd.f5 [] false w args ∧ laidMetH Tryd.prog laid w) ∧ sizedMet enc Tryd.prog Tryd.f5 (OpenSpec.ofChange Rows.pack6BackSpec) false w args)
      (Rows.pack6BackSpec.post enc Tryd.prog Tryd.f5 false true false false) := by
  refine returnsInHanded_of_change_and (C := Tryd.checked) (X := fun w _ => laidMetH Tryd.prog laid w) (fun _ _ _ hh h => h.of_heap hh) own started (by kernel_rfl) Tryd.func5
    (ChangeSpec.witness_at (enc := enc) (C := Tryd.checked) (os := os) (X := fun w _ => laidMetH Tryd.prog laid w) false (laidWorld os) #[.agg #[.int .i64 0, .int .i64 0, .int .i64 0, .int .i64 0, .int .i64 0, .int .i64 0, .int .i64 0, .int .i64 0, .int .i64 0, .int .i64 0, .int .i64 0, .int .i64 0, .int .i64 0, .int .i64 0, .int .i64 0, .int .i64 0, .int .i64 0, .int .i64 0, .slice none 0 0], .int .i64 0, .int .u8 0, .slice none 0 0] 8 rfl (by kernel_rfl) (by kernel_rfl) (by kernel_rfl) (by kernel_rfl) (by kernel_rfl) (laidWorld_met os _)) ?_
  intro W base args ds gs before hval0 hW _ _ hL _
  have hval : ∀ (j : Nat) t v, Tryd.f5.params[j]? = some t → args[j]? = some v → Value.okWide Tryd.prog W .any base t v := hval0
  have hW' := hW
  obtain ⟨p, q, hA0, hV0, rfl, hfz, hnd⟩ := hW
  have hA : DataW.TrodAll enc Tryd.prog W 0 (fun _ => true) true Tryd.f5.params.toList args.toList ds p := hA0
  have hV : DataW.TrodVars enc Tryd.prog W (fun _ => true) [] gs q := hV0
  have hg := handle_of_laid hL
  rw [Tryd.params5] at hA hval
  obtain ⟨v0, vs0, d0, ds0, p0, q0, hargs, rfl, rfl, h0, r0⟩ := trodAll_cons hA
  obtain ⟨v1, vs1, d1, ds1, p1, q1, rfl, rfl, rfl, h1, r1⟩ := trodAll_cons r0
  obtain ⟨v2, vs2, d2, ds2, p2, q2, rfl, rfl, rfl, h2, r2⟩ := trodAll_cons r1
  obtain ⟨v3, vs3, d3, ds3, p3, q3, rfl, rfl, rfl, h3, r3⟩ := trodAll_cons r2
  obtain ⟨rfl, rfl, rfl⟩ := trodAll_nil r3
  obtain rfl : args = #[v0, v1, v2, v3] := by cases args; simp_all
  obtain ⟨rfl, rfl⟩ := vars_nil hV
  have lt0 : ∀ x ∈ p0, x.block < W.heap.size := by obtain ⟨m, hm⟩ := h0; exact DataW.trod_lt m _ _ _ hm
  have k0 := h0
  obtain ⟨pk0, a0, n0, c0, x0, rfl, w0⟩ := open_pack6 (hval 0 39 v0 rfl rfl) h0
  have lt1 : ∀ x ∈ p1, x.block < W.heap.size := by obtain ⟨m, hm⟩ := h1; exact DataW.trod_lt m _ _ _ hm
  have k1 := h1
  obtain ⟨x1, rfl, _, _, w1'⟩ := open_int Tryd.underlying3 (hval 1 3 v1 rfl rfl) h1
  have w1 : IsInt x1 := wf_i64 w1'
  have lt2 : ∀ x ∈ p2, x.block < W.heap.size := by obtain ⟨m, hm⟩ := h2; exact DataW.trod_lt m _ _ _ hm
  have k2 := h2
  obtain ⟨x2, rfl, _, _, w2'⟩ := open_int Tryd.underlying5 (hval 2 5 v2 rfl rfl) h2
  have w2 := wf_u8 w2'
  have lt3 : ∀ x ∈ p3, x.block < W.heap.size := by obtain ⟨m, hm⟩ := h3; exact DataW.trod_lt m _ _ _ hm
  have k3 := h3
  obtain ⟨a3, n3, c3, rfl⟩ := okWide_slice Tryd.underlying22 (hval 3 22 v3 rfl rfl)
  obtain ⟨x3, w3⟩ := open_bytes h3
  clear hA0 hval0
  refine (walk pk0 a0 n0 c0 x0 x1 x2 a3 n3 c3 x3 W hg w0 w1 w2 w3).mono fun e W' ⟨he, bel⟩ => ?_
  subst he
  exact ⟨_, rfl, _, _, _, [], _, [], hW', trodAll_mk1 (shut_bool Tryd.underlying4 _), (trodAll_cons_mk (Below.trod laidOut (by kernel_rfl) (of_decide_eq_true (by kernel_rfl)) k0 bel lt0) (trodAll_cons_mk (Below.trod laidOut (by kernel_rfl) (of_decide_eq_true (by kernel_rfl)) k1 bel lt1) (trodAll_cons_mk (Below.trod laidOut (by kernel_rfl) (of_decide_eq_true (by kernel_rfl)) k2 bel lt2) (trodAll_cons_mk (Below.trod laidOut (by kernel_rfl) (of_decide_eq_true (by kernel_rfl)) k3 bel lt3) trodAll_mk0)))), rfl, bel.frame _, fun h => by cases h⟩

theorem over : Rows.pack6BackRow.holds Tryd.pinned (OpenSpec.ofChange Rows.pack6BackSpec) :=
  OpenClaim.holds_of_wide 5 Tryd.f5 rfl rfl rfl rfl rfl rfl rfl ⟨rfl, rfl, rfl, rfl, rfl⟩ rfl rfl rfl rfl rfl (by kernel_rfl) Tryd.func5 (by kernel_rfl)
    (of_decide_eq_true (by kernel_rfl)) (by unfold Func.isWrapper; first | (rw [if_pos (by decide +kernel)]; kernel_rfl) | (rw [if_neg (by decide +kernel)]; exact ⟨rfl, rfl⟩))
    (fun os started H enc _ => lifted os started H enc)

/-- THE STATEMENT. -/
theorem proved : Rows.Pack6BackCardSaid :=
  Claim7.holds_tied_plain_at .later [] _ _ _ _
    over (fun _ h => by cases h) (by kernel_rfl) (fun _ h => by cases h) pack6Back_row_tie rfl ⟨rfl, rfl⟩ (by kernel_rfl) rfl
    (fun f fn hf hfn => by
      obtain rfl : f = 5 := Option.some.inj ((show Tryd.prog.funcNamed "gangplank/gangplanklaw1.Pack6Back" = some 5 by kernel_rfl).symm.trans hf) |>.symm
      obtain rfl : fn = Tryd.f5 := (Option.some.inj (Tryd.func5.symm.trans hfn)).symm
      exact ⟨by kernel_rfl, fun j t ht => by
        rw [Tryd.params5] at ht
        have hall : ((#[39, 3, 5, 22] : Array Nat).all fun t => !Tryd.prog.wantsStandIn t) = true := by kernel_rfl
        have := Array.all_eq_true'.1 hall t (Array.mem_of_getElem? ht)
        show Tryd.prog.wantsStandIn t = false
        simpa using this⟩)
    (by kernel_rfl)
#print axioms proved
end Go.Proofs.YtlgdmipejgggkaaDoor.pack6Back
