/- The law SegIs: segments as bytes, and bytes as segments, are what the document says. Conditions: the row's own: errors.errorType holds its handle (tied). -/
import Derived.Test.YtkjchddidpjjmaaDoorMgSegIs1
import Derived.Test.YtkjchddidpjjmaaDoorMgSegIs2
import Derived.Test.YtkjchddidpjjmaaDoorMgSegIs3
import Derived.Test.YtkjchddidpjjmaaDoorMgSegIs4
import Derived.Test.YtkjchddidpjjmaaDoorMgSegIs5
import Derived.Test.YtkjchddidpjjmaaDoorMgSegIs6
import Derived.Test.YtkjchddidpjjmaaDoorMgSegIs7
import Derived.Test.YtkjchddidpjjmaaDoorTie
import Derived.Test.YtkjchddidpjjmaaDoorCards
import Derived.SevenTiedAt
import Derived.Deep.DeepCutAuto
namespace Go.Proofs.YtkjchddidpjjmaaDoor.segIs
open Go.ChangeShapes Go.WideShapes Go.ChangeAt Go.RowKit

theorem eqz (q : Int) (h : q = 0) : (q == 0) = true := by simpa using h
theorem nez (q : Int) (h : q ≠ 0) : (q == 0) = false := by simpa using h
set_option maxRecDepth 100000 in
set_option maxHeartbeats 8000000 in
theorem walk (s0 : Sg) (a0 : Option Addr) (n0 c0 : Nat) (x0 : List Int) (x1 x2 : Int) (a3 : Option Addr) (n3 c3 : Nat) (x3 : List Int) (w : World) (hg : Handle w) (w0 : Sd.Is w ⟨s0, a0, n0, c0, x0⟩) (_ : IsInt x1) (_ : IsInt x2) (w3 : IsBytes w a3 n3 c3 x3 ∧ (a3 = none → c3 = 0)) :
    Calls Tryd.prog 5 #[s0.v (.slice a0 n0 c0), .int .i64 x1, .int .i64 x2, .slice a3 n3 c3] w fun e w' => e = .returned (.bool true) ∧ Below w.heap.size w w' := by
  obtain ⟨⟨hb0, hB0, hn0, _⟩, _, _⟩ := w0
  obtain ⟨⟨hb3, hB3, hn3, _⟩, hc3⟩ := w3
  have HG := Lib.hid hg
  have H0 := Lib.hid hb0
  have H3 := Lib.hid hb3
  have HB0 := Lib.hid hB0
  have HB3 := Lib.hid hB3
  have HN3 := Lib.hid hn3
  have HC3 := Lib.hid hc3
  have HL := Lib.hid hb0.len
  have K0 := Blk.new w 50 (s0.cells (.slice a0 n0 c0))
  have E0 : Ext w (w.alloc (.cells (s0.cells (.slice a0 n0 c0)) 50)) := (Ext.refl w).alloc _
  have ld := K0.seg
  obtain ⟨F, hF⟩ : ∃ F, Pl.segFault s0 n0 = F := ⟨_, rfl⟩
  obtain ⟨E, hE⟩ : ∃ E, Pl.encF s0 x1 x0.length = E := ⟨_, rfl⟩
  obtain ⟨ok, hok⟩ : ∃ ok, w16 x1 = ok := ⟨_, rfl⟩
  have HF := Lib.hid hF
  have HE := Lib.hid hE
  have HOK := Lib.hid hok
  have HRF := Lib.hid (fun W => (show Calls Tryd.prog 27 #[s0.v (.slice a0 n0 c0)] W (fun e w' => e = .returned (.int .i64 F) ∧ Ext W w') from hF ▸ rsegFault_any s0 a0 n0 c0 W))
  have HCF := Lib.hid (fun W => (show Calls Tryd.prog 28 #[s0.v (.slice a0 n0 c0)] W (fun e w' => e = .returned (erv F) ∧ Ext W w') from hF ▸ chk_any s0 a0 n0 c0 W))
  clear hg hb0 hb3 hB0 hB3 hn3 hc3 hF hE hok
  go_enter Tryd.func5, Tryd.ntmps5
  go_wp2_with ((apply load_by rfl _ _ rfl _ rfl); (focus (with_reducible assumption)))
  refine (HRF.out _).mono ?_
  rintro e W1 ⟨rfl, q1⟩
  have K1 := K0.ext q1
  have E1 := E0.trans q1
  clear ld K0 E0 q1
  have ld := K1.seg
  go_wp2_with ((apply load_by rfl _ _ rfl _ rfl); (focus (with_reducible assumption)))
  refine (HCF.out _).mono ?_
  rintro e W2 ⟨rfl, q2⟩
  have K2 := K1.ext q2
  have E2 := E1.trans q2
  clear ld K1 E1 q2
  go_wp2_with fail
  refine (err_same F W2 (HG.out.below E2)).mono ?_
  rintro e W3 ⟨rfl, b3⟩
  have K3 := K2.ext b3
  have E3 : Ext w W3 := Ext.trans E2 b3
  clear K2 E2 b3
  go_wp2_with fail
  refine (word_any x1 W3).mono ?_
  rintro e w' ⟨rfl, rfl⟩
  rw [HOK.out]
  obtain ⟨Z, hZ⟩ : ∃ Z, ((F == 0) && !ok) = Z := ⟨_, rfl⟩
  have HZ := Lib.hid hZ
  clear hZ
  go_upto_region 5 with (fail)
  go_cut [32] (fun b wc => W3 = wc ∧ b = .bool Z)
  case first =>
    by_cases hf : F = 0
    · have hf' := eqz F hf
      have HR := Lib.hid (show (!ok) = Z by rw [← HZ.out, hf']; rfl)
      clear hf
      go_wp2_with fail
      go_meet
      exact ⟨rfl, by rw [HR.out]⟩
    · have hf' := nez F hf
      have HR := Lib.hid (show false = Z by rw [← HZ.out, hf']; rfl)
      clear hf
      go_wp2_with fail
      go_meet
      exact ⟨rfl, by rw [HR.out]⟩
  obtain ⟨rfl, rfl⟩ := hcut
  go_upto_if 32 with (fail)
  go_cut [9] (fun e wc => W3 = wc ∧ e = .int .i64 E)
  case first =>
    have hEE : (if F ≠ 0 then F else if Pl.Word x1 then 0 else 1) = E := by rw [← HE.out]; unfold Pl.encF; rw [HL.out, HF.out]
    cases Z
    · have HR := Lib.hid (show F = E by
        rw [← hEE]
        by_cases hf : F = 0
        · have h1 := HZ.out
          rw [eqz F hf] at h1
          rw [if_neg (by simpa using hf), if_pos (by have h2 : ok = true := by simpa using h1
                                                     exact w16_yes (HOK.out.trans h2))]
          exact hf
        · rw [if_pos hf])
      clear hEE
      go_wp2_with fail
      go_meet
      exact ⟨rfl, by rw [HR.out]⟩
    · have HR := Lib.hid (show (1 : Int) = E by
        have h1 := HZ.out
        rw [Bool.and_eq_true] at h1
        obtain ⟨h2, h3⟩ := h1
        have h4 : F = 0 := by simpa using h2
        have h5 : ok = false := by simpa using h3
        rw [← hEE, if_neg (by simpa using h4), if_neg (fun hw => by rw [← HOK.out, w16_of hw] at h5; cases h5)])
      clear hEE
      go_wp2_with fail
      go_meet
      exact ⟨rfl, by rw [HR.out]⟩
  obtain ⟨rfl, rfl⟩ := hcut
  clear HZ
  go_upto_if 34 with (fail)
  go_cut [12] (fun z wc => z = .string (strOfNums (Pl.encB s0 x1 x0)) ∧ Ext w wc ∧ Blk wc w.heap.size 50 (s0.cells (.slice a0 n0 c0)))
  case first =>
    by_cases hz : E = 0
    case neg =>
      have hz' := nez E hz
      have HBB := Lib.hid (show (⟨#[]⟩ : ByteArray) = strOfNums (Pl.encB s0 x1 x0) by unfold Pl.encB; rw [HE.out, if_neg hz]; rfl)
      clear hz
      go_wp2_with fail
      go_meet
      exact ⟨by rw [HBB.out], E3, K3⟩
    obtain ⟨hv, hw⟩ := Pl.encF_zero (HE.out.trans hz)
    rw [HL.out] at hv
    have HV := Lib.hid hv
    have HW := Lib.hid hw
    have hz' := eqz E hz
    have HBB := Lib.hid (show Pl.segBytes s0 (Pl.segCheck s0 x1 x0) x0 = Pl.encB s0 x1 x0 by unfold Pl.encB; rw [HE.out, if_pos hz])
    clear hz hv hw
    go_upto_region 8 with (fail)
    have EX := E3.drew
    have KX : Blk W3.drew w.heap.size _ _ := K3.drew
    refine wp_region_held_drew (S := (fun w' => Blk w' w.heap.size 50 (s0.cells (.slice a0 n0 c0)))) (by kernel_rfl) KX (fun hS0 => ?_)
    generalize W3.drew = V0 at *
    (refine wpAnyH_take (i := 2) (v := ?_) rfl (by kernel_rfl) (by kernel_rfl) (by kernel_rfl) (fun _ _ _ h => h) (Or.inl ⟨by rfl, ?_⟩) (by assumption) ?_; rotate_left; focus (intro w hSw; (try dsimp only at hSw); go_simp; try with_reducible rfl); try simp only [Act.put, List.getElem_toArray, List.getElem_cons_succ, List.getElem_cons_zero, List.setIfInBounds_toArray, List.set_cons_zero, List.set_cons_succ])
    refine wpAnyH_take (i := 0) rfl (by kernel_rfl) (by kernel_rfl) (by kernel_rfl) (fun _ _ _ h => h) (Or.inl ⟨by rfl, fun W hS => exec_load rfl rfl (Blk.seg hS)⟩) (by assumption) ?_
    (try simp only [Act.put, List.getElem_toArray, List.getElem_cons_succ, List.getElem_cons_zero, List.setIfInBounds_toArray, List.set_cons_zero, List.set_cons_succ])
    refine wpAnyH_take (i := 1) rfl (by kernel_rfl) (by kernel_rfl) (by kernel_rfl) (fun _ _ _ h => h) (Or.inl ⟨by rfl, fun W hS => exec_load rfl rfl (Blk.seg hS)⟩) (by assumption) ?_
    (try simp only [Act.put, List.getElem_toArray, List.getElem_cons_succ, List.getElem_cons_zero, List.setIfInBounds_toArray, List.set_cons_zero, List.set_cons_succ])
    (refine wpAnyH_ready (rs := [3]) (by kernel_rfl) (by simp) ?_; refine AllReadyH.cons rfl (fun K hK => ?_) AllReadyH.nil)
    go_simp
    go_at_call 31
    refine (rcheckOf_any s0 a0 n0 c0 x0 x1 V0 HV.out (H0.out.ext EX) HB0.out HW.out).mono ?_
    rintro e V1 ⟨rfl, q⟩
    replace EX := EX.trans q
    replace KX := KX.ext q
    refine hK.out _ _ KX ?_
    clear hK K q
    intro hS
    (try simp only [Act.put, List.getElem_toArray, List.getElem_cons_succ, List.getElem_cons_zero, List.setIfInBounds_toArray, List.set_cons_zero, List.set_cons_succ])
    (refine wpAnyH_ready (rs := [4]) (by kernel_rfl) (by simp) ?_; refine AllReadyH.cons rfl (fun K hK => ?_) AllReadyH.nil)
    go_simp
    go_at_call 30
    refine (rsegBytes_any s0 a0 n0 c0 x0 (Pl.segCheck s0 x1 x0) V1 HV.out (H0.out.ext EX) (Pl.segCheck_bd s0 x1 x0)).mono ?_
    rintro e V2 ⟨v2, rfl, o2, q⟩
    obtain ⟨a2, n2, d2, rfl, _, r2⟩ := o2.read
    replace EX := EX.trans q
    replace KX := KX.ext q
    have z2 := conv_str (c := d2) r2
    rw [HBB.out] at z2
    refine hK.out _ _ KX ?_
    clear hK K q
    intro hS
    (try simp only [Act.put, List.getElem_toArray, List.getElem_cons_succ, List.getElem_cons_zero, List.setIfInBounds_toArray, List.set_cons_zero, List.set_cons_succ])
    (refine wpAnyH_ready (rs := [5]) (by kernel_rfl) (by simp) ?_; refine AllReadyH.cons rfl (fun K hK => ?_) AllReadyH.nil)
    go_simp
    refine hK.out _ _ KX ?_
    clear hK K z2 r2 o2
    intro hS
    (try simp only [Act.put, List.getElem_toArray, List.getElem_cons_succ, List.getElem_cons_zero, List.setIfInBounds_toArray, List.set_cons_zero, List.set_cons_succ])
    (refine wpAnyH_take (i := 6) (v := ?_) rfl (by kernel_rfl) (by kernel_rfl) (by kernel_rfl) (fun _ _ _ h => h) (Or.inl ⟨by rfl, ?_⟩) (by assumption) ?_; rotate_left; focus (intro w hSw; (try dsimp only at hSw); go_simp; try with_reducible rfl); try simp only [Act.put, List.getElem_toArray, List.getElem_cons_succ, List.getElem_cons_zero, List.setIfInBounds_toArray, List.set_cons_zero, List.set_cons_succ])
    refine wpAnyH_done (by kernel_rfl) ?_ _
    go_wp2_with fail
    go_meet
    exact ⟨rfl, EX, KX⟩
  obtain ⟨rfl, E4, K4⟩ := hcut
  clear E3 K3
  have ld := K4.seg
  go_wp2_with ((apply load_by rfl _ _ rfl _ rfl); (focus (with_reducible assumption)))
  refine (sEncode_any s0 a0 n0 c0 x0 x1 wc (H0.out.ext E4) HB0.out).mono ?_
  rintro e W5 ⟨v5, rfl, o5, q5⟩
  rw [HE.out]
  obtain ⟨a5, n5, d5, rfl, _, r5⟩ := o5.read
  have E5 := E4.trans q5
  obtain ⟨z, hzz⟩ : ∃ z, strOfNums (Pl.encB s0 x1 x0) = z := ⟨_, rfl⟩
  rw [hzz]
  have HZ := Lib.hid hzz
  clear ld E4 K4 q5 o5 hzz
  go_wp2_with fail
  refine (err_same E W5 (HG.out.below E5)).mono ?_
  rintro e W6 ⟨rfl, b6⟩
  have q6 : Ext W5 W6 := b6
  have E6 := E5.trans q6
  have z6 := conv_str (c := d5) (r5.ext q6)
  rw [HZ.out] at z6
  clear E5 r5 b6 q6 HZ
  go_wp2_with fail
  refine (rsegOf_any x2 a3 n3 c3 x3 x1 W6 (H3.out.ext E6) HB3.out HN3.out HC3.out).mono ?_
  rintro e W7 ⟨a7, n7, c7, rfl, r7, q7⟩
  have HD := Lib.hid (fun (W : World) (q : Ext w W) => sdecode_any x2 a3 n3 c3 x3 x1 W (H3.out.ext q) HB3.out HN3.out HC3.out)
  unfold DecGot at HD
  generalize Pl.segV x2 x3 x1 = V at *
  generalize Pl.segQ x2 x3 x1 = Q at *
  generalize Pl.segD x2 x3 x1 = D at *
  have E7 := E6.trans q7
  have KA := Blk.new W7 50 #[.int .i64 0, .int .i64 0, .int .i64 0, .int .i64 0, .int .i64 0, .int .i64 0, .int .i64 0, .slice none 0 0]
  have st := sto KA V a7 n7 c7
  have KB := KA.row (V.cells (.slice a7 n7 c7))
  have hs7 := E7.size
  have E8 := (E7.alloc (.cells #[.int .i64 0, .int .i64 0, .int .i64 0, .int .i64 0, .int .i64 0, .int .i64 0, .int .i64 0, .slice none 0 0] 50)).row hs7 (V.cells (.slice a7 n7 c7))
  have r8 := Ints.keepRow (r7.ext ((Ext.refl W7).alloc (.cells #[.int .i64 0, .int .i64 0, .int .i64 0, .int .i64 0, .int .i64 0, .int .i64 0, .int .i64 0, .slice none 0 0] 50))) W7.heap.size (V.cells (.slice a7 n7 c7)) (fun h0 p hp => by
    obtain ⟨b, o, rfl, hb, _⟩ := r7.at h0
    cases hp
    show b ≠ _
    omega)
  clear z6 E6 q7 r7 KA E7
  go_wp2_with ((apply store_by rfl _ _ _ rfl _ rfl); (focus (with_reducible assumption)); (focus rfl))
  refine at_world (fun W => Ext w W ∧ Blk W W7.heap.size 50 (V.cells (.slice a7 n7 c7)) ∧ Ints .u8 W a7 n7 D) ⟨E8, KB, r8⟩ ?_
  clear st KB E8 r8
  rintro W8 ⟨E8, K8, r8⟩
  generalize W7.heap.size = R7 at *
  refine (HD.out W8 E8).mono ?_
  rintro e W9 ⟨v9, rfl, o9, q9⟩
  obtain ⟨a9, n9, c9, rfl, _, r9⟩ := o9.read
  have E9 := E8.trans q9
  have K9 := K8.ext q9
  have r89 := r8.ext q9
  have KA := Blk.new W9 50 #[.int .i64 0, .int .i64 0, .int .i64 0, .int .i64 0, .int .i64 0, .int .i64 0, .int .i64 0, .slice none 0 0]
  have st := sto KA V a9 n9 c9
  have KB := KA.row (V.cells (.slice a9 n9 c9))
  have hs9 := E9.size
  have hk9 := K9.lt
  have E10 := (E9.alloc (.cells #[.int .i64 0, .int .i64 0, .int .i64 0, .int .i64 0, .int .i64 0, .int .i64 0, .int .i64 0, .slice none 0 0] 50)).row hs9 (V.cells (.slice a9 n9 c9))
  have K10 := (K9.alloc (.cells #[.int .i64 0, .int .i64 0, .int .i64 0, .int .i64 0, .int .i64 0, .int .i64 0, .int .i64 0, .slice none 0 0] 50)).farRow (show R7 ≠ W9.heap.size by omega) (V.cells (.slice a9 n9 c9))
  have r10 := Ints.keepRow (r89.ext ((Ext.refl W9).alloc (.cells #[.int .i64 0, .int .i64 0, .int .i64 0, .int .i64 0, .int .i64 0, .int .i64 0, .int .i64 0, .slice none 0 0] 50))) W9.heap.size (V.cells (.slice a9 n9 c9)) (fun h0 p hp => by
    obtain ⟨b, o, rfl, hb, _⟩ := r89.at h0
    cases hp
    show b ≠ _
    omega)
  have r10' := Ints.keepRow (r9.ext ((Ext.refl W9).alloc (.cells #[.int .i64 0, .int .i64 0, .int .i64 0, .int .i64 0, .int .i64 0, .int .i64 0, .int .i64 0, .slice none 0 0] 50))) W9.heap.size (V.cells (.slice a9 n9 c9)) (fun h0 p hp => by
    obtain ⟨b, o, rfl, hb, _⟩ := r9.at h0
    cases hp
    show b ≠ _
    omega)
  clear E8 K8 r8 q9 E9 K9 r89 KA o9 r9
  go_wp2_with ((apply store_by rfl _ _ _ rfl _ rfl); (focus (with_reducible assumption)); (focus rfl))
  refine at_world (fun W => Ext w W ∧ Blk W R7 50 (V.cells (.slice a7 n7 c7)) ∧ Ints .u8 W a7 n7 D ∧ Blk W W9.heap.size 50 (V.cells (.slice a9 n9 c9)) ∧ Ints .u8 W a9 n9 D) ⟨E10, K10, r10, KB, r10'⟩ ?_
  clear st KB E10 K10 r10 r10'
  rintro W10 ⟨E10, K10, r10, KB, r10'⟩
  generalize W9.heap.size = R9 at *
  refine (err_same Q W10 (HG.out.below E10)).mono ?_
  rintro e W11 ⟨rfl, b11⟩
  have q11 : Ext W10 W11 := b11
  have E11 := E10.trans q11
  have l7 := (K10.ext q11).seg
  have l9 := (KB.ext q11).seg
  have HR := Lib.hid (r10.ext q11)
  have HR' := Lib.hid (r10'.ext q11)
  clear E10 K10 KB r10 r10' b11 q11
  go_wp2_with ((apply load_by rfl _ _ rfl _ rfl); (focus (with_reducible assumption)))
  refine (segs_yes V a9 a7 n9 c9 n7 c7 D W11 HR'.out HR.out).mono ?_
  rintro e W12 ⟨rfl, q12⟩
  go_wp2_with fail
  go_ret
  exact ⟨rfl, E11.trans q12⟩
set_option maxRecDepth 100000 in
theorem lifted (os : Os) (started : os.Started) (H : Type) (enc : TypeId × Value → H) :
    ReturnsInHanded {} Tryd.checked os 5 .any (fun w args => (Rows.segIsSpec.pre enc Tryd.prog Tryd.f5 [] false w args ∧ laidMetH Tryd.prog laid w) ∧ sizedMet enc Tryd.prog Tryd.f5 (OpenSpec.ofChange Rows.segIsSpec) false w args)
      (Rows.segIsSpec.post enc Tryd.prog Tryd.f5 false true false false) := by
  refine returnsInHanded_of_change_and (C := Tryd.checked) (X := fun w _ => laidMetH Tryd.prog laid w) (fun _ _ _ hh h => h.of_heap hh) own started (by kernel_rfl) Tryd.func5
    (ChangeSpec.witness_at (enc := enc) (C := Tryd.checked) (os := os) (X := fun w _ => laidMetH Tryd.prog laid w) false (laidWorld os) #[.agg #[.int .i64 0, .int .i64 0, .int .i64 0, .int .i64 0, .int .i64 0, .int .i64 0, .int .i64 0, .slice none 0 0], .int .i64 0, .int .i64 0, .slice none 0 0] 8 rfl (by kernel_rfl) (by kernel_rfl) (by kernel_rfl) (by kernel_rfl) (by kernel_rfl) (laidWorld_met os _)) ?_
  intro W base args ds gs before hval0 hW _ _ hL _
  have hval : ∀ (j : Nat) t v, Tryd.f5.params[j]? = some t → args[j]? = some v → Value.okWide Tryd.prog W .any base t v := hval0
  have hW' := hW
  obtain ⟨p, q, hA0, hV0, rfl, hfz, hnd⟩ := hW
  have hA : DataW.TrodAll enc Tryd.prog W 0 (fun _ => true) true Tryd.f5.params.toList args.toList ds p := hA0
  have hV : DataW.TrodVars enc Tryd.prog W (fun _ => true) [] gs q := hV0
  have hg := handle_of_laid hL
  rw [Tryd.params5] at hA hval
  obtain ⟨v0, vs0, d0, ds0, p0, q0, hargs, rfl, rfl, h0, r0⟩ := trodAll_cons hA
  obtain ⟨v1, vs1, d1, ds1, p1, q1, rfl, rfl, rfl, h1, r1⟩ := trodAll_cons r0
  obtain ⟨v2, vs2, d2, ds2, p2, q2, rfl, rfl, rfl, h2, r2⟩ := trodAll_cons r1
  obtain ⟨v3, vs3, d3, ds3, p3, q3, rfl, rfl, rfl, h3, r3⟩ := trodAll_cons r2
  obtain ⟨rfl, rfl, rfl⟩ := trodAll_nil r3
  obtain rfl : args = #[v0, v1, v2, v3] := by cases args; simp_all
  obtain ⟨rfl, rfl⟩ := vars_nil hV
  have lt0 : ∀ x ∈ p0, x.block < W.heap.size := by obtain ⟨m, hm⟩ := h0; exact DataW.trod_lt m _ _ _ hm
  have k0 := h0
  obtain ⟨s0, a0, n0, c0, x0, rfl, w0⟩ := open_seg (hval 0 50 v0 rfl rfl) h0
  have lt1 : ∀ x ∈ p1, x.block < W.heap.size := by obtain ⟨m, hm⟩ := h1; exact DataW.trod_lt m _ _ _ hm
  have k1 := h1
  obtain ⟨x1, rfl, _, _, w1'⟩ := open_int Tryd.underlying3 (hval 1 3 v1 rfl rfl) h1
  have w1 : IsInt x1 := wf_i64 w1'
  have lt2 : ∀ x ∈ p2, x.block < W.heap.size := by obtain ⟨m, hm⟩ := h2; exact DataW.trod_lt m _ _ _ hm
  have k2 := h2
  obtain ⟨x2, rfl, _, _, w2'⟩ := open_int Tryd.underlying3 (hval 2 3 v2 rfl rfl) h2
  have w2 : IsInt x2 := wf_i64 w2'
  have lt3 : ∀ x ∈ p3, x.block < W.heap.size := by obtain ⟨m, hm⟩ := h3; exact DataW.trod_lt m _ _ _ hm
  have k3 := h3
  obtain ⟨a3, n3, c3, rfl⟩ := okWide_slice Tryd.underlying40 (hval 3 40 v3 rfl rfl)
  obtain ⟨x3, w3⟩ := open_bytesz h3
  clear hA0 hval0
  refine (walk s0 a0 n0 c0 x0 x1 x2 a3 n3 c3 x3 W hg w0 w1 w2 w3).mono fun e W' ⟨he, bel⟩ => ?_
  subst he
  exact ⟨_, rfl, _, _, _, [], _, [], hW', trodAll_mk1 (shut_bool Tryd.underlying4 _), (trodAll_cons_mk (Below.trod laidOut (by kernel_rfl) (of_decide_eq_true (by kernel_rfl)) k0 bel lt0) (trodAll_cons_mk (Below.trod laidOut (by kernel_rfl) (of_decide_eq_true (by kernel_rfl)) k1 bel lt1) (trodAll_cons_mk (Below.trod laidOut (by kernel_rfl) (of_decide_eq_true (by kernel_rfl)) k2 bel lt2) (trodAll_cons_mk (Below.trod laidOut (by kernel_rfl) (of_decide_eq_true (by kernel_rfl)) k3 bel lt3) trodAll_mk0)))), rfl, bel.frame _, fun h => by cases h⟩

theorem over : Rows.segIsRow.holds Tryd.pinned (OpenSpec.ofChange Rows.segIsSpec) :=
  OpenClaim.holds_of_wide 5 Tryd.f5 rfl rfl rfl rfl rfl rfl rfl ⟨rfl, rfl, rfl, rfl, rfl⟩ rfl rfl rfl rfl rfl (by kernel_rfl) Tryd.func5 (by kernel_rfl)
    (of_decide_eq_true (by kernel_rfl)) (by unfold Func.isWrapper; first | (rw [if_pos (by decide +kernel)]; kernel_rfl) | (rw [if_neg (by decide +kernel)]; exact ⟨rfl, rfl⟩))
    (fun os started H enc _ => lifted os started H enc)

/-- THE STATEMENT. -/
theorem proved : Rows.SegIsCardSaid :=
  Claim7.holds_tied_plain_at .later [] _ _ _ _
    over (fun _ h => by cases h) (by kernel_rfl) (fun _ h => by cases h) segIs_row_tie rfl ⟨rfl, rfl⟩ (by kernel_rfl) rfl
    (fun f fn hf hfn => by
      obtain rfl : f = 5 := Option.some.inj ((show Tryd.prog.funcNamed "gangplank/gangplanklaw1.SegIs" = some 5 by kernel_rfl).symm.trans hf) |>.symm
      obtain rfl : fn = Tryd.f5 := (Option.some.inj (Tryd.func5.symm.trans hfn)).symm
      exact ⟨by kernel_rfl, fun j t ht => by
        rw [Tryd.params5] at ht
        have hall : ((#[50, 3, 3, 40] : Array Nat).all fun t => !Tryd.prog.wantsStandIn t) = true := by kernel_rfl
        have := Array.all_eq_true'.1 hall t (Array.mem_of_getElem? ht)
        show Tryd.prog.wantsStandIn t = false
        simpa using this⟩)
    (by kernel_rfl)
#print axioms proved
end Go.Proofs.YtkjchddidpjjmaaDoor.segIs
