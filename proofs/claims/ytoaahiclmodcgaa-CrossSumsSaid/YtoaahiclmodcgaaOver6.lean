/- The contracts of seg.Over6 and of the document's answer to it. Conditions: as each theorem states them. -/
import Derived.Test.YtoaahiclmodcgaaOver4
import Derived.Test.YtoaahiclmodcgaaSixS
import Derived.Deep.DeepCutAuto
import Derived.Deep.RegionLaw
namespace Go.Proofs.Ytoaahiclmodcgaa
open Go.RowKit
def ok6 (s d : Six) (k n : Int) : Bool := okS s && okS d && okO k n
def val6 (s d : Six) (k n : Int) : Int := Pl.fold (Pl.raw 0 (Pl.two s.l ++ Pl.two d.l ++ Pl.two [k, n]))
set_option maxRecDepth 100000 in
set_option maxHeartbeats 2000000 in
theorem over6_any (s d : Six) (k n : Int) (w : World) :
    Calls Try.prog 42 #[s.v, d.v, .int .i64 k, .int .i64 n] w fun e w' => e = .returned (.tuple #[.int .i64 (bO (ok6 s d k n) (val6 s d k n)), erv (eO (ok6 s d k n))]) ∧ Ext w w' := by
  have KS := (Blk.new w 23 s.cells).alloc (.cells d.cells 23)
  have KD := Blk.new (w.alloc (.cells s.cells 23)) 23 d.cells
  simp only [World.size_alloc] at KD
  have E0 := ((Ext.refl w).alloc (.cells s.cells 23)).alloc (.cells d.cells 23)
  have ls := KS.six0
  unfold Six.v
  cases hs : okS s
  case false =>
    have ho : ok6 s d k n = false := by unfold ok6; rw [hs]; rfl
    rw [ho]
    have HS := Lib.hid hs
    clear ho hs
    go_enter Try.func42, Try.ntmps42
    go_wp2_with ((apply load_by rfl _ _ rfl _ rfl); (focus (with_reducible assumption)))
    refine (check6_no s _ HS.out).mono ?_
    rintro e W1 ⟨rfl, q1⟩
    unfold errv
    go_wp2_with fail
    go_ret2
    exact ⟨rfl, E0.trans q1⟩
  cases hd : okS d
  case false =>
    have ho : ok6 s d k n = false := by unfold ok6; rw [hs, hd]; rfl
    rw [ho]
    have HS := Lib.hid hs
    have HD := Lib.hid hd
    clear ho hs hd
    go_enter Try.func42, Try.ntmps42
    go_wp2_with ((apply load_by rfl _ _ rfl _ rfl); (focus (with_reducible assumption)))
    refine (check6_yes s _ HS.out).mono ?_
    rintro e W1 ⟨rfl, q1⟩
    have ld := (KD.ext q1).six0
    clear ls
    go_wp2_with ((apply load_by rfl _ _ rfl _ rfl); (focus (with_reducible assumption)))
    refine (check6_no d _ HD.out).mono ?_
    rintro e W2 ⟨rfl, q2⟩
    unfold errv
    go_wp2_with fail
    go_ret2
    exact ⟨rfl, (E0.trans q1).trans q2⟩
  have ho : ok6 s d k n = okO k n := by unfold ok6; rw [hs, hd]; rfl
  rw [ho]
  have HS := Lib.hid hs
  have HD := Lib.hid hd
  clear ho hs hd
  go_enter Try.func42, Try.ntmps42
  go_wp2_with ((apply load_by rfl _ _ rfl _ rfl); (focus (with_reducible assumption)))
  refine (check6_yes s _ HS.out).mono ?_
  rintro e W1 ⟨rfl, q1⟩
  have ld := (KD.ext q1).six0
  clear ls
  go_wp2_with ((apply load_by rfl _ _ rfl _ rfl); (focus (with_reducible assumption)))
  refine (check6_yes d _ HD.out).mono ?_
  rintro e W2 ⟨rfl, q2⟩
  have E2 := (E0.trans q1).trans q2
  have KS2 := (KS.ext q1).ext q2
  have KD2 := (KD.ext q1).ext q2
  clear ld E0 q1 q2 KS KD
  go_upto_region 3 with (fail)
  have fS := KS2.cells
  have fD := KD2.cells
  unfold Six.cells at fS fD
  have hlen : (Pl.two s.l).length = 16 := by rw [Pl.two_length]; rfl
  have hlen2 : (Pl.two d.l).length = 16 := by rw [Pl.two_length]; rfl
  have HL := Lib.hid hlen
  have HL2 := Lib.hid hlen2
  clear hlen hlen2
  go_region_law (first
    | (go_simp; go_at_call 22; (have h3 := E3; clear h3); (with_reducible refine (raw6_x s _ HS.out).mono ?_); rintro e W4 ⟨v4, rfl, o4, q4⟩; obtain ⟨a4, n4, c4, rfl, l4, r4⟩ := o4.read; have E4 : Ext W2 W4 := (by first | exact Ext.trans E3 q4 | exact Ext.trans (Ext.drew E3) q4); have rs : Ints .u8 W4 a4 n4 (Pl.two s.l) := r4; have rd : Ints .u8 W4 a3 n3 (Pl.two d.l) := r3.ext (by first | exact q4 | exact Ext.trans (Ext.drew (Ext.refl _)) q4); have fS4 := (KS2.ext E4).cells; have fD4 := (KD2.ext E4).cells; unfold Six.cells at fS4 fD4)
    | (go_simp; go_at_call 22; (have h3 := E3; clear h3); (with_reducible refine (raw6_x d _ HD.out).mono ?_); rintro e W4 ⟨v4, rfl, o4, q4⟩; obtain ⟨a4, n4, c4, rfl, l4, r4⟩ := o4.read; have E4 : Ext W2 W4 := (by first | exact Ext.trans E3 q4 | exact Ext.trans (Ext.drew E3) q4); have rd : Ints .u8 W4 a4 n4 (Pl.two d.l) := r4; have rs : Ints .u8 W4 a3 n3 (Pl.two s.l) := r3.ext (by first | exact q4 | exact Ext.trans (Ext.drew (Ext.refl _)) q4); have fS4 := (KS2.ext E4).cells; have fD4 := (KD2.ext E4).cells; unfold Six.cells at fS4 fD4)
    | (go_simp; go_at_call 22; (with_reducible refine (raw6_x s _ HS.out).mono ?_); rintro e W3 ⟨v3, rfl, o3, q3⟩; obtain ⟨a3, n3, c3, rfl, l3, r3⟩ := o3.read; have E3 : Ext W2 W3 := (by first | exact q3 | exact Ext.trans (Ext.drew (Ext.refl _)) q3); have fS3 := (KS2.ext E3).cells; have fD3 := (KD2.ext E3).cells; unfold Six.cells at fS3 fD3)
    | (go_simp; go_at_call 22; (with_reducible refine (raw6_x d _ HD.out).mono ?_); rintro e W3 ⟨v3, rfl, o3, q3⟩; obtain ⟨a3, n3, c3, rfl, l3, r3⟩ := o3.read; have E3 : Ext W2 W3 := (by first | exact q3 | exact Ext.trans (Ext.drew (Ext.refl _)) q3); have fS3 := (KS2.ext E3).cells; have fD3 := (KD2.ext E3).cells; unfold Six.cells at fS3 fD3)
    | (go_simp; go_at_call 50; refine (over_any _ _ _ (Pl.two s.l) _ _ _ (Pl.two d.l) k n _ (by first | exact rs | exact rs.ext (Ext.drew (Ext.refl _))) (by first | exact rd | exact rd.ext (Ext.drew (Ext.refl _))) (Six.isB HS.out) (Six.isB HD.out) (by have h1 := rs.len; have h2 := rd.len; have h3 := HL.out; have h4 := HL2.out; omega)).mono ?_; rintro e W5 ⟨rfl, q5⟩; have E5 : Ext w W5 := E2.trans (by first | exact Ext.trans E4 q5 | exact Ext.trans (Ext.drew E4) q5)))
  all_goals
    clear fS fD fS3 fD3 fS4 fD4
    go_wp2_with fail
    go_ret2
    refine ⟨?_, E5⟩
    unfold val6
    rw [List.append_assoc]
    rfl
end Go.Proofs.Ytoaahiclmodcgaa
