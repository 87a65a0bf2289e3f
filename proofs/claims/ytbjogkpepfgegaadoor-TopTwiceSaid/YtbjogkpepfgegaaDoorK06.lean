/- Lemmas of this seat, bound together: Over Over4 Over6 Ref6 Ip4 Ip4e Slice. Conditions: as each lemma states them. -/
import Derived.Test.YtbjogkpepfgegaaDoorK05
import Derived.Test.YtbjogkpepfgegaaDoorK03
import Derived.Test.YtbjogkpepfgegaaDoorK02
import Derived.Deep.DeepCutAuto
import Derived.Deep.RegionLaw
import Derived.Test.YtbjogkpepfgegaaDoorK04
import Derived.BigQuiet
import Derived.Test.YtbjogkpepfgegaaDoorK01
import Derived.Test.YtbjogkpepfgegaaDoorK00
import Derived.Deep.RegionHeld3
namespace Go.Proofs.YtbjogkpepfgegaaDoor
open Go.RowKit

set_option maxRecDepth 100000 in
set_option maxHeartbeats 2000000 in
theorem concat3 (g : Nat) (a1 : Option Addr) (n1 c1 : Nat) (x1 : List Int) (a2 : Option Addr) (n2 c2 : Nat) (x2 : List Int) (a3 : Option Addr) (n3 c3 : Nat) (x3 : List Int) (w : World) (K : Blk w g 27 #[.slice a1 n1 c1, .slice a2 n2 c2, .slice a3 n3 c3])
    (h1 : Ints .u8 w a1 n1 x1) (h2 : Ints .u8 w a2 n2 x2) (h3 : Ints .u8 w a3 n3 x3) (hn : n1 + n2 + n3 ≤ 10000) :
    Calls Tryd.prog 69 #[.slice (some ⟨g, 0, none⟩) 3 3] w fun e w' => ∃ v, e = .returned v ∧ Own w' w.heap.size v (x1 ++ x2 ++ x3) ∧ Ext w w' := by
  have H1 := Lib.hid h1
  have H2 := Lib.hid h2
  have H3 := Lib.hid h3
  have HK := Lib.hid K
  have k0 : w.cell? ⟨g, 0, none⟩ = some (.slice a1 n1 c1) := K.cells 0
  have k1 : w.cell? ⟨g, 1, none⟩ = some (.slice a2 n2 c2) := K.cells 1
  have k2 : w.cell? ⟨g, 2, none⟩ = some (.slice a3 n3 c3) := K.cells 2
  have HC := Lib.hid (show (n1 : Int) + (n2 : Int) = ((n1 + n2 : Nat) : Int) by omega)
  have hz1 : ¬ (n1 : Int) < 0 := by omega
  obtain ⟨m2, hm2⟩ : ∃ m, m = n1 + n2 := ⟨_, rfl⟩
  obtain ⟨m3, hm3⟩ : ∃ m, m = n1 + n2 + n3 := ⟨_, rfl⟩
  have HM2 := Lib.hid hm2
  have HM3 := Lib.hid hm3
  have b2 : m2 ≤ 10000 := by omega
  have b3 : m3 ≤ 10000 := by omega
  clear h1 h2 h3 K hm2 hm3
  go_enter Tryd.func69, Tryd.ntmps69
  go_wp2_with fail
  go_loopw [3, 11] (fun s k wr => w = wr ∧ ((k = .int .i64 0 ∧ s = .int .i64 0) ∨ (k = .int .i64 1 ∧ s = .int .i64 n1) ∨ (k = .int .i64 2 ∧ s = .int .i64 (m2 : Int)) ∨ (k = .int .i64 3 ∧ s = .int .i64 (m3 : Int)))) (fun _ k _ => 3 - (intOf k).toNat)
  case atStart => exact ⟨rfl, .inl ⟨rfl, rfl⟩⟩
  case round =>
    obtain ⟨rfl, ⟨rfl, rfl⟩ | ⟨rfl, rfl⟩ | ⟨rfl, rfl⟩ | ⟨rfl, rfl⟩⟩ := hrel
    · go_wp2_with fail
      go_roundw
      case rel => exact ⟨trivial, .inr (.inl ⟨rfl, rfl⟩)⟩
      case measure => simp [intOf]
    · have hz2 : ¬ (n1 : Int) + (n2 : Int) < 0 := by omega
      have ew : IntKind.i64.wrap ((n1 : Int) + (n2 : Int)) = (n1 : Int) + (n2 : Int) := IntWalk.i64_in _ (by omega)
      go_wp2_with fail
      go_roundw
      case rel => exact ⟨trivial, .inr (.inr (.inl ⟨rfl, val_int (by have := HM2.out; omega)⟩))⟩
      case measure => simp [intOf]
    · have hz2 : ¬ (m2 : Int) + (n3 : Int) < 0 := by omega
      have ew : IntKind.i64.wrap ((m2 : Int) + (n3 : Int)) = (m2 : Int) + (n3 : Int) := IntWalk.i64_in _ (by omega)
      go_wp2_with fail
      go_roundw
      case rel => exact ⟨trivial, .inr (.inr (.inr ⟨rfl, val_int (by have := HM2.out; have := HM3.out; omega)⟩))⟩
      case measure => simp [intOf]
    · go_wp2_with fail
      refine (grow_nil m3 w (by omega)).mono ?_
      rintro e W1 ⟨v, rfl, o1, q1⟩
      clear k0 k1 k2
      go_wp2_with fail
      go_loopw [6, 27] (fun v k wr => ∃ ys, Own wr w.heap.size v ys ∧ Ext w wr ∧ ((k = .int .i64 0 ∧ ys = []) ∨ (k = .int .i64 1 ∧ ys = x1) ∨ (k = .int .i64 2 ∧ ys = x1 ++ x2) ∨ (k = .int .i64 3 ∧ ys = x1 ++ x2 ++ x3))) (fun _ k _ => 3 - (intOf k).toNat)
      case atStart => exact ⟨[], o1, q1, .inl ⟨rfl, rfl⟩⟩
      case round =>
        obtain ⟨ys, oy, qy, hk⟩ := hrel
        have KW := HK.out.ext qy
        have j0 : wr.cell? ⟨g, 0, none⟩ = some (.slice a1 n1 c1) := KW.cells 0
        have j1 : wr.cell? ⟨g, 1, none⟩ = some (.slice a2 n2 c2) := KW.cells 1
        have j2 : wr.cell? ⟨g, 2, none⟩ = some (.slice a3 n3 c3) := KW.cells 2
        clear KW
        rcases hk with ⟨rfl, rfl⟩ | ⟨rfl, rfl⟩ | ⟨rfl, rfl⟩ | ⟨rfl, rfl⟩
        · go_wp2_with (at_builtin; refine Halt.out ?_)
          refine Halt.mk ?_
          refine app rfl _ _ rfl w.heap.size _ [] rfl oy _ n1 c1 x1 rfl (H1.out.ext qy) (by simp; omega) qy.size ?_
          intro v' w' o' b'
          clear j0 j1 j2
          go_wp2_with fail
          go_roundw
          case rel => exact ⟨x1, o', Below.trans qy b', .inr (.inl ⟨rfl, rfl⟩)⟩
          case measure => simp [intOf]
        · go_wp2_with (at_builtin; refine Halt.out ?_)
          refine Halt.mk ?_
          refine app rfl _ _ rfl w.heap.size _ _ rfl oy _ n2 c2 x2 rfl (H2.out.ext qy) (by rw [H1.out.len]; omega) qy.size ?_
          intro v' w' o' b'
          clear j0 j1 j2
          go_wp2_with fail
          go_roundw
          case rel => exact ⟨_, o', Below.trans qy b', .inr (.inr (.inl ⟨rfl, rfl⟩))⟩
          case measure => simp [intOf]
        · go_wp2_with (at_builtin; refine Halt.out ?_)
          refine Halt.mk ?_
          refine app rfl _ _ rfl w.heap.size _ _ rfl oy _ n3 c3 x3 rfl (H3.out.ext qy) (by rw [List.length_append, H1.out.len, H2.out.len]; omega) qy.size ?_
          intro v' w' o' b'
          clear j0 j1 j2
          go_wp2_with fail
          go_roundw
          case rel => exact ⟨_, o', Below.trans qy b', .inr (.inr (.inr ⟨rfl, rfl⟩))⟩
          case measure => simp [intOf]
        · clear j0 j1 j2
          go_wp2_with fail
          go_ret
          exact ⟨_, rfl, oy, qy⟩

set_option maxRecDepth 100000 in
set_option maxHeartbeats 2000000 in
theorem over_any (a1 : Option Addr) (n1 c1 : Nat) (x1 : List Int) (a2 : Option Addr) (n2 c2 : Nat) (x2 : List Int) (k n : Int) (w : World) (h1 : Ints .u8 w a1 n1 x1) (h2 : Ints .u8 w a2 n2 x2) (b1 : Pl.IsB x1) (b2 : Pl.IsB x2) (hn : n1 + n2 ≤ 100) :
    Calls Tryd.prog 55 #[.slice a1 n1 c1, .slice a2 n2 c2, .int .i64 k, .int .i64 n] w fun e w' =>
      e = .returned (.tuple #[.int .i64 (bO (okO k n) (Pl.fold (Pl.raw 0 (x1 ++ x2 ++ Pl.two [k, n])))), erv (eO (okO k n))]) ∧ Ext w w' := by
  have H1 := Lib.hid h1
  have H2 := Lib.hid h2
  have HB1 := Lib.hid b1
  have HB2 := Lib.hid b2
  clear h1 h2 b1 b2
  by_cases hk : 0 ≤ k ∧ k ≤ 255
  case neg =>
    have ho : okO k n = false := by
      cases h : w8 k
      · unfold okO; rw [h]; rfl
      · exact absurd (w8_yes h) hk
    rw [ho]
    clear ho
    by_cases hk0 : k < 0
    · clear hk
      go_enter Tryd.func55, Tryd.ntmps55
      go_wp2_with fail
      go_ret2
      exact ⟨rfl, Ext.refl _⟩
    · have hk1 : 255 < k := by omega
      clear hk
      go_enter Tryd.func55, Tryd.ntmps55
      go_wp2_with fail
      go_ret2
      exact ⟨rfl, Ext.refl _⟩
  obtain ⟨k0, k1⟩ := hk
  have hw8 : w8 k = true := by unfold w8; simp [k0, k1]
  by_cases g0 : 0 ≤ n
  case neg =>
    have ho : okO k n = false := by unfold okO; simp [g0]
    rw [ho]
    clear ho hw8
    go_enter Tryd.func55, Tryd.ntmps55
    go_wp2_with fail
    go_ret2
    exact ⟨rfl, Ext.refl _⟩
  by_cases g1 : n ≤ 320
  case neg =>
    have ho : okO k n = false := by unfold okO; simp [g1]
    rw [ho]
    clear ho hw8
    go_enter Tryd.func55, Tryd.ntmps55
    go_wp2_with fail
    go_ret2
    exact ⟨rfl, Ext.refl _⟩
  have ho : okO k n = true := by unfold okO; rw [hw8]; simp [g0, g1]
  rw [ho]
  have htwo : Pl.two [k, n] = [0, k, n / 256, n % 256] := by
    simp [Pl.two]
    omega
  rw [htwo]
  have e1 : IntKind.u8.wrap k = k := IntWalk.u8_in _ (by omega)
  have e2 : IntKind.u8.wrap (n / 256) = n / 256 := IntWalk.u8_in _ (by omega)
  have e3 : IntKind.u8.wrap n = n % 256 := by rw [IntKind.wrap_u8]
  clear ho hw8 htwo
  go_enter Tryd.func55, Tryd.ntmps55
  go_wp2_with fail
  refine (concat3 (w.heap.size + 1) a1 n1 c1 x1 a2 n2 c2 x2 (some ⟨w.heap.size, 0, none⟩) 4 4 [0, k, n / 256, n % 256] _ (Blk.at _ _ _ (by simp)) (H1.out.ext (((Ext.refl w).alloc _).alloc _)) (H2.out.ext (((Ext.refl w).alloc _).alloc _)) ((ints_new w _ _ _ _ _ rfl).ext ((Ext.refl _).alloc _)) (by omega)).mono ?_
  rintro e W1 ⟨v, rfl, o1, q1⟩
  have E1 : Ext w W1 := (((Ext.refl w).alloc _).alloc _).trans q1
  obtain ⟨a3, n3, c3, rfl, _, r3⟩ := o1.read
  have hn3 : n3 ≤ 65536 := by rw [← r3.len, List.length_append, List.length_append, H1.out.len, H2.out.len]; simp; omega
  clear o1 q1
  go_wp2_with fail
  refine (raw_any a3 n3 c3 _ W1 r3 ((HB1.out.append HB2.out).append (fun x hx => by simp only [List.mem_cons, List.not_mem_nil, or_false] at hx; rcases hx with rfl | rfl | rfl | rfl <;> omega)) hn3).mono ?_
  rintro e w' ⟨rfl, rfl⟩
  go_wp2_with fail
  go_ret2
  refine ⟨?_, E1⟩
  rw [List.append_assoc]
  rfl
end Go.Proofs.YtbjogkpepfgegaaDoor
namespace Go.Proofs.YtbjogkpepfgegaaDoor
open Go.RowKit
def ok4 (s d k n : Int) : Bool := w32 s && w32 d && okO k n
def val4 (s d k n : Int) : Int := Pl.fold (Pl.raw 0 (Pl.four s ++ Pl.four d ++ Pl.two [k, n]))

set_option maxRecDepth 100000 in
set_option maxHeartbeats 1000000 in
theorem over4_any (s d k n : Int) (w : World) :
    Calls Tryd.prog 39 #[.int .i64 s, .int .i64 d, .int .i64 k, .int .i64 n] w fun e w' => e = .returned (.tuple #[.int .i64 (bO (ok4 s d k n) (val4 s d k n)), erv (eO (ok4 s d k n))]) ∧ Ext w w' := by
  cases hs : w32 s
  case false =>
    have ho : ok4 s d k n = false := by unfold ok4; rw [hs]; rfl
    rw [ho]
    have HS := Lib.hid hs
    clear ho hs
    go_enter Tryd.func39, Tryd.ntmps39
    go_wp2_with fail
    refine (is_any s w).mono ?_
    rintro e w' ⟨rfl, rfl⟩
    rw [HS.out]
    go_wp2_with fail
    go_ret2
    exact ⟨rfl, Ext.refl _⟩
  cases hd : w32 d
  case false =>
    have ho : ok4 s d k n = false := by unfold ok4; rw [hs, hd]; rfl
    rw [ho]
    have HS := Lib.hid hs
    have HD := Lib.hid hd
    clear ho hs hd
    go_enter Tryd.func39, Tryd.ntmps39
    go_wp2_with fail
    refine (is_any s w).mono ?_
    rintro e w' ⟨rfl, rfl⟩
    rw [HS.out]
    go_wp2_with fail
    refine (is_any d w).mono ?_
    rintro e w' ⟨rfl, rfl⟩
    rw [HD.out]
    go_wp2_with fail
    go_ret2
    exact ⟨rfl, Ext.refl _⟩
  have ho : ok4 s d k n = okO k n := by unfold ok4; rw [hs, hd]; rfl
  rw [ho]
  obtain ⟨s0, s1⟩ := w32_yes hs
  obtain ⟨d0, d1⟩ := w32_yes hd
  have HS := Lib.hid hs
  have HD := Lib.hid hd
  clear ho hs hd
  go_enter Tryd.func39, Tryd.ntmps39
  go_wp2_with fail
  refine (is_any s w).mono ?_
  rintro e w' ⟨rfl, rfl⟩
  rw [HS.out]
  go_wp2_with fail
  refine (is_any d w).mono ?_
  rintro e w' ⟨rfl, rfl⟩
  rw [HD.out]
  go_wp2_with fail
  refine (raw4_any s w s0 s1).mono ?_
  rintro e W1 ⟨v1, rfl, o1, q1⟩
  obtain ⟨a1, n1, c1, rfl, _, r1⟩ := o1.read
  have h1 : 4 = n1 := r1.len
  go_wp2_with fail
  refine (raw4_any d W1 d0 d1).mono ?_
  rintro e W2 ⟨v2, rfl, o2, q2⟩
  obtain ⟨a2, n2, c2, rfl, _, r2⟩ := o2.read
  have h2 : 4 = n2 := r2.len
  have E2 : Ext w W2 := Ext.trans q1 q2
  go_wp2_with fail
  refine (over_any a1 n1 c1 (Pl.four s) a2 n2 c2 (Pl.four d) k n W2 (r1.ext q2) r2 (Pl.four_isB s0 s1) (Pl.four_isB d0 d1) (by omega)).mono ?_
  rintro e W3 ⟨rfl, q3⟩
  have hv : Pl.fold (Pl.raw 0 (Pl.four s ++ Pl.four d ++ Pl.two [k, n])) = val4 s d k n := rfl
  rw [hv]
  go_wp2_with fail
  go_ret2
  exact ⟨rfl, E2.trans q3⟩

end Go.Proofs.YtbjogkpepfgegaaDoor
namespace Go.Proofs.YtbjogkpepfgegaaDoor
open Go.RowKit
def ok6 (s d : Six) (k n : Int) : Bool := okS s && okS d && okO k n
def val6 (s d : Six) (k n : Int) : Int := Pl.fold (Pl.raw 0 (Pl.two s.l ++ Pl.two d.l ++ Pl.two [k, n]))
set_option maxRecDepth 100000 in
set_option maxHeartbeats 2000000 in
theorem over6_any (s d : Six) (k n : Int) (w : World) :
    Calls Tryd.prog 28 #[s.v, d.v, .int .i64 k, .int .i64 n] w fun e w' => e = .returned (.tuple #[.int .i64 (bO (ok6 s d k n) (val6 s d k n)), erv (eO (ok6 s d k n))]) ∧ Ext w w' := by
  have KS := (Blk.new w 23 s.cells).alloc (.cells d.cells 23)
  have KD := Blk.new (w.alloc (.cells s.cells 23)) 23 d.cells
  simp only [World.size_alloc] at KD
  have E0 := ((Ext.refl w).alloc (.cells s.cells 23)).alloc (.cells d.cells 23)
  have ls := KS.six0
  unfold Six.v
  cases hs : okS s
  case false =>
    have ho : ok6 s d k n = false := by unfold ok6; rw [hs]; rfl
    rw [ho]
    have HS := Lib.hid hs
    clear ho hs
    go_enter Tryd.func28, Tryd.ntmps28
    go_wp2_with ((apply load_by rfl _ _ rfl _ rfl); (focus (with_reducible assumption)))
    refine (check6_no s _ HS.out).mono ?_
    rintro e W1 ⟨rfl, q1⟩
    unfold errv
    go_wp2_with fail
    go_ret2
    exact ⟨rfl, E0.trans q1⟩
  cases hd : okS d
  case false =>
    have ho : ok6 s d k n = false := by unfold ok6; rw [hs, hd]; rfl
    rw [ho]
    have HS := Lib.hid hs
    have HD := Lib.hid hd
    clear ho hs hd
    go_enter Tryd.func28, Tryd.ntmps28
    go_wp2_with ((apply load_by rfl _ _ rfl _ rfl); (focus (with_reducible assumption)))
    refine (check6_yes s _ HS.out).mono ?_
    rintro e W1 ⟨rfl, q1⟩
    have ld := (KD.ext q1).six0
    clear ls
    go_wp2_with ((apply load_by rfl _ _ rfl _ rfl); (focus (with_reducible assumption)))
    refine (check6_no d _ HD.out).mono ?_
    rintro e W2 ⟨rfl, q2⟩
    unfold errv
    go_wp2_with fail
    go_ret2
    exact ⟨rfl, (E0.trans q1).trans q2⟩
  have ho : ok6 s d k n = okO k n := by unfold ok6; rw [hs, hd]; rfl
  rw [ho]
  have HS := Lib.hid hs
  have HD := Lib.hid hd
  clear ho hs hd
  go_enter Tryd.func28, Tryd.ntmps28
  go_wp2_with ((apply load_by rfl _ _ rfl _ rfl); (focus (with_reducible assumption)))
  refine (check6_yes s _ HS.out).mono ?_
  rintro e W1 ⟨rfl, q1⟩
  have ld := (KD.ext q1).six0
  clear ls
  go_wp2_with ((apply load_by rfl _ _ rfl _ rfl); (focus (with_reducible assumption)))
  refine (check6_yes d _ HD.out).mono ?_
  rintro e W2 ⟨rfl, q2⟩
  have E2 := (E0.trans q1).trans q2
  have KS2 := (KS.ext q1).ext q2
  have KD2 := (KD.ext q1).ext q2
  clear ld E0 q1 q2 KS KD
  go_upto_region 3 with (fail)
  have fS := KS2.cells
  have fD := KD2.cells
  unfold Six.cells at fS fD
  have hlen : (Pl.two s.l).length = 16 := by rw [Pl.two_length]; rfl
  have hlen2 : (Pl.two d.l).length = 16 := by rw [Pl.two_length]; rfl
  have HL := Lib.hid hlen
  have HL2 := Lib.hid hlen2
  clear hlen hlen2
  go_region_law (first
    | (go_simp; go_at_call 24; (have h3 := E3; clear h3); (with_reducible refine (raw6_x s _ HS.out).mono ?_); rintro e W4 ⟨v4, rfl, o4, q4⟩; obtain ⟨a4, n4, c4, rfl, l4, r4⟩ := o4.read; have E4 : Ext W2 W4 := (by first | exact Ext.trans E3 q4 | exact Ext.trans (Ext.drew E3) q4); have rs : Ints .u8 W4 a4 n4 (Pl.two s.l) := r4; have rd : Ints .u8 W4 a3 n3 (Pl.two d.l) := r3.ext (by first | exact q4 | exact Ext.trans (Ext.drew (Ext.refl _)) q4); have fS4 := (KS2.ext E4).cells; have fD4 := (KD2.ext E4).cells; unfold Six.cells at fS4 fD4)
    | (go_simp; go_at_call 24; (have h3 := E3; clear h3); (with_reducible refine (raw6_x d _ HD.out).mono ?_); rintro e W4 ⟨v4, rfl, o4, q4⟩; obtain ⟨a4, n4, c4, rfl, l4, r4⟩ := o4.read; have E4 : Ext W2 W4 := (by first | exact Ext.trans E3 q4 | exact Ext.trans (Ext.drew E3) q4); have rd : Ints .u8 W4 a4 n4 (Pl.two d.l) := r4; have rs : Ints .u8 W4 a3 n3 (Pl.two s.l) := r3.ext (by first | exact q4 | exact Ext.trans (Ext.drew (Ext.refl _)) q4); have fS4 := (KS2.ext E4).cells; have fD4 := (KD2.ext E4).cells; unfold Six.cells at fS4 fD4)
    | (go_simp; go_at_call 24; (with_reducible refine (raw6_x s _ HS.out).mono ?_); rintro e W3 ⟨v3, rfl, o3, q3⟩; obtain ⟨a3, n3, c3, rfl, l3, r3⟩ := o3.read; have E3 : Ext W2 W3 := (by first | exact q3 | exact Ext.trans (Ext.drew (Ext.refl _)) q3); have fS3 := (KS2.ext E3).cells; have fD3 := (KD2.ext E3).cells; unfold Six.cells at fS3 fD3)
    | (go_simp; go_at_call 24; (with_reducible refine (raw6_x d _ HD.out).mono ?_); rintro e W3 ⟨v3, rfl, o3, q3⟩; obtain ⟨a3, n3, c3, rfl, l3, r3⟩ := o3.read; have E3 : Ext W2 W3 := (by first | exact q3 | exact Ext.trans (Ext.drew (Ext.refl _)) q3); have fS3 := (KS2.ext E3).cells; have fD3 := (KD2.ext E3).cells; unfold Six.cells at fS3 fD3)
    | (go_simp; go_at_call 55; refine (over_any _ _ _ (Pl.two s.l) _ _ _ (Pl.two d.l) k n _ (by first | exact rs | exact rs.ext (Ext.drew (Ext.refl _))) (by first | exact rd | exact rd.ext (Ext.drew (Ext.refl _))) (Six.isB HS.out) (Six.isB HD.out) (by have h1 := rs.len; have h2 := rd.len; have h3 := HL.out; have h4 := HL2.out; omega)).mono ?_; rintro e W5 ⟨rfl, q5⟩; have E5 : Ext w W5 := E2.trans (by first | exact Ext.trans E4 q5 | exact Ext.trans (Ext.drew E4) q5)))
  all_goals
    clear fS fD fS3 fD3 fS4 fD4
    go_wp2_with fail
    go_ret2
    refine ⟨?_, E5⟩
    unfold val6
    rw [List.append_assoc]
    rfl
end Go.Proofs.YtbjogkpepfgegaaDoor
namespace Go.Proofs.YtbjogkpepfgegaaDoor
open Go.RowKit

end Go.Proofs.YtbjogkpepfgegaaDoor
namespace Go.Proofs.YtbjogkpepfgegaaDoor
open Go.RowKit

/-- A packet as a value. -/
def pk4 (s d t k i : Int) (b : Value) : Value := .agg #[.int .i64 s, .int .i64 d, .int .i64 t, .int .i64 k, .int .i64 i, b]
namespace Pl
/-- Are a packet's numbers such that may be? -/
def Ok4 (s d t k i : Int) : Prop := (0 ≤ s ∧ s < 4294967296) ∧ (0 ≤ d ∧ d < 4294967296) ∧ (0 ≤ t ∧ t ≤ 255) ∧ (0 ≤ k ∧ k ≤ 255) ∧ (0 ≤ i ∧ i ≤ 65535)
end Pl

set_option maxHeartbeats 800000 in
theorem check4_ok (s d t k i : Int) (a : Option Addr) (n c : Nat) (w : World) (h : Pl.Ok4 s d t k i) (hn : n ≤ 320) :
    Calls Tryd.prog 48 #[pk4 s d t k i (.slice a n c)] w fun e w' => e = .returned .nilIface ∧ Below w.heap.size w w' := by
  obtain ⟨⟨s0, s1⟩, ⟨d0, d1⟩, ⟨t0, t1⟩, ⟨k0, k1⟩, ⟨i0, i1⟩⟩ := h
  unfold pk4
  go_enter Tryd.func48, Tryd.ntmps48
  go_wp2_with (go_at_call 23; refine (is_yes _ _ (by assumption) (by assumption)).mono ?_; rintro e w' ⟨rfl, rfl⟩)
  go_ret
  exact ⟨rfl, by go_grown⟩
set_option maxHeartbeats 800000 in
theorem check4_full (s d t k i : Int) (a : Option Addr) (n c : Nat) (w : World) (h : Pl.Ok4 s d t k i) (hn : 320 < n) :
    Calls Tryd.prog 48 #[pk4 s d t k i (.slice a n c)] w fun e w' => e = .returned (errv 3) ∧ Below w.heap.size w w' := by
  obtain ⟨⟨s0, s1⟩, ⟨d0, d1⟩, ⟨t0, t1⟩, ⟨k0, k1⟩, ⟨i0, i1⟩⟩ := h
  unfold pk4
  go_enter Tryd.func48, Tryd.ntmps48
  go_wp2_with (go_at_call 23; refine (is_yes _ _ (by assumption) (by assumption)).mono ?_; rintro e w' ⟨rfl, rfl⟩)
  go_ret
  exact ⟨rfl, by go_grown⟩
set_option maxHeartbeats 1600000 in
theorem check4_range (s d t k i : Int) (a : Option Addr) (n c : Nat) (w : World) (h : ¬ Pl.Ok4 s d t k i) :
    Calls Tryd.prog 48 #[pk4 s d t k i (.slice a n c)] w fun e w' => e = .returned (errv 1) ∧ Below w.heap.size w w' := by
  have H := Lib.hid h
  clear h
  unfold pk4
  by_cases hs : 0 ≤ s ∧ s < 4294967296
  case neg =>
    have HS := Lib.hid hs
    clear hs
    go_enter Tryd.func48, Tryd.ntmps48
    go_wp2_with (go_at_call 23; refine (is_no _ _ HS.out).mono ?_; rintro e w' ⟨rfl, rfl⟩)
    go_ret
    exact ⟨rfl, by go_grown⟩
  by_cases hd : 0 ≤ d ∧ d < 4294967296
  case neg =>
    have HS := Lib.hid hd
    have HT := Lib.hid hs
    clear hs hd
    go_enter Tryd.func48, Tryd.ntmps48
    go_wp2_with (go_at_call 23; first | ((with_reducible refine (is_no d _ HS.out).mono ?_); rintro e w' ⟨rfl, rfl⟩) | ((with_reducible refine (is_yes s _ HT.out.1 HT.out.2).mono ?_); rintro e w' ⟨rfl, rfl⟩))
    go_ret
    exact ⟨rfl, by go_grown⟩
  obtain ⟨s0, s1⟩ := hs
  obtain ⟨d0, d1⟩ := hd
  by_cases ht0 : 0 ≤ t
  case neg =>
    go_enter Tryd.func48, Tryd.ntmps48
    go_wp2_with (go_at_call 23; refine (is_yes _ _ (by assumption) (by assumption)).mono ?_; rintro e w' ⟨rfl, rfl⟩)
    go_ret
    exact ⟨rfl, by go_grown⟩
  by_cases ht1 : t ≤ 255
  case neg =>
    go_enter Tryd.func48, Tryd.ntmps48
    go_wp2_with (go_at_call 23; refine (is_yes _ _ (by assumption) (by assumption)).mono ?_; rintro e w' ⟨rfl, rfl⟩)
    go_ret
    exact ⟨rfl, by go_grown⟩
  by_cases hk0 : 0 ≤ k
  case neg =>
    go_enter Tryd.func48, Tryd.ntmps48
    go_wp2_with (go_at_call 23; refine (is_yes _ _ (by assumption) (by assumption)).mono ?_; rintro e w' ⟨rfl, rfl⟩)
    go_ret
    exact ⟨rfl, by go_grown⟩
  by_cases hk1 : k ≤ 255
  case neg =>
    go_enter Tryd.func48, Tryd.ntmps48
    go_wp2_with (go_at_call 23; refine (is_yes _ _ (by assumption) (by assumption)).mono ?_; rintro e w' ⟨rfl, rfl⟩)
    go_ret
    exact ⟨rfl, by go_grown⟩
  by_cases hi0 : 0 ≤ i
  case neg =>
    go_enter Tryd.func48, Tryd.ntmps48
    go_wp2_with (go_at_call 23; refine (is_yes _ _ (by assumption) (by assumption)).mono ?_; rintro e w' ⟨rfl, rfl⟩)
    go_ret
    exact ⟨rfl, by go_grown⟩
  have hi1 : ¬ i ≤ 65535 := fun hi1 => H.out ⟨⟨s0, s1⟩, ⟨d0, d1⟩, ⟨ht0, ht1⟩, ⟨hk0, hk1⟩, ⟨hi0, hi1⟩⟩
  go_enter Tryd.func48, Tryd.ntmps48
  go_wp2_with (go_at_call 23; refine (is_yes _ _ (by assumption) (by assumption)).mono ?_; rintro e w' ⟨rfl, rfl⟩)
  go_ret
  exact ⟨rfl, by go_grown⟩
end Go.Proofs.YtbjogkpepfgegaaDoor
namespace Go.Proofs.YtbjogkpepfgegaaDoor
open Go.RowKit

namespace Pl
/-- The head of a packet of fours, with a check. -/
def first4 (t k i n c : Int) : List Int := [69, 0, (20 + n) / 256, (20 + n) % 256, i / 256, i % 256, 64, 0, t, k, c / 256, c % 256]
def head4 (s d t k i n c : Int) : List Int := first4 t k i n c ++ four s ++ four d
def sum4 (s d t k i n : Int) : Int := 65535 - fold (raw 0 (head4 s d t k i n 0))
/-- A packet's bytes. -/
def enc4 (s d t k i : Int) (b : List Int) : List Int := head4 s d t k i b.length (sum4 s d t k i b.length) ++ b
theorem head4_isB {s d t k i n c : Int} (h : Ok4 s d t k i) (hn : 0 ≤ n ∧ n ≤ 320) (hc : 0 ≤ c ∧ c ≤ 65535) : IsB (head4 s d t k i n c) := by
  obtain ⟨⟨s0, s1⟩, ⟨d0, d1⟩, ⟨t0, t1⟩, ⟨k0, k1⟩, ⟨i0, i1⟩⟩ := h
  refine (IsB.append ?_ (four_isB s0 s1)).append (four_isB d0 d1)
  unfold first4
  repeat (first | exact .nil | refine .cons (by omega) (by omega) ?_)
theorem head4_length (s d t k i n c : Int) : (head4 s d t k i n c).length = 20 := rfl
theorem head4_set (s d t k i n c : Int) : ((head4 s d t k i n 0).set 10 (c / 256)).set 11 (c % 256) = head4 s d t k i n c := rfl
theorem sum4_bd (s d t k i n : Int) : 0 ≤ sum4 s d t k i n ∧ sum4 s d t k i n ≤ 65535 := by
  have h0 := fold_lo (raw 0 (head4 s d t k i n 0))
  have h1 := fold_hi (raw 0 (head4 s d t k i n 0))
  unfold sum4
  omega
theorem enc4_isB {s d t k i : Int} {b : List Int} (h : Ok4 s d t k i) (hb : IsB b) (hn : b.length ≤ 320) : IsB (enc4 s d t k i b) :=
  (head4_isB h (by omega) (sum4_bd ..)).append hb
theorem enc4_length (s d t k i : Int) (b : List Int) : (enc4 s d t k i b).length = 20 + b.length := by
  unfold enc4
  rw [List.length_append, head4_length]
end Pl

set_option maxRecDepth 100000 in
set_option maxHeartbeats 1600000 in
theorem encode4_any (s d t k i : Int) (a : Option Addr) (n c : Nat) (b : List Int) (w : World) (h : Pl.Ok4 s d t k i) (hn : n ≤ 320) (hr : Ints .u8 w a n b) :
    Calls Tryd.prog 71 #[pk4 s d t k i (.slice a n c)] w fun e w' => ∃ v, e = .returned v ∧ Own w' w.heap.size v (Pl.enc4 s d t k i b) ∧ Below w.heap.size w w' := by
  have hok := h
  obtain ⟨⟨s0, s1⟩, ⟨d0, d1⟩, ⟨t0, t1⟩, ⟨k0, k1⟩, ⟨i0, i1⟩⟩ := h
  have hl := hr.len
  have HL := Lib.hid hl
  have e2 : IntKind.u8.wrap (20 + (n : Int)) = (20 + (n : Int)) % 256 := by rw [IntKind.wrap_u8]
  have e3 : IntKind.u8.wrap i = i % 256 := by rw [IntKind.wrap_u8]
  clear hl
  unfold pk4
  go_enter Tryd.func71, Tryd.ntmps71
  go_wp2_with fail
  clear e2 e3
  have B1 : Below w.heap.size w ((w.alloc (.cells #[.int .i64 s, .int .i64 d, .int .i64 t, .int .i64 k, .int .i64 i, .slice a n c] 42)).alloc
      (.cells #[.int .u8 69, .int .u8 0, .int .u8 ((20 + ↑n) / 256), .int .u8 ((20 + ↑n) % 256), .int .u8 (i / 256), .int .u8 (i % 256), .int .u8 64, .int .u8 0, .int .u8 t, .int .u8 k, .int .u8 0, .int .u8 0] 5)) := by go_grown
  have q0 : ((w.alloc (.cells #[.int .i64 s, .int .i64 d, .int .i64 t, .int .i64 k, .int .i64 i, .slice a n c] 42)).alloc
      (.cells #[.int .u8 69, .int .u8 0, .int .u8 ((20 + ↑n) / 256), .int .u8 ((20 + ↑n) % 256), .int .u8 (i / 256), .int .u8 (i % 256), .int .u8 64, .int .u8 0, .int .u8 t, .int .u8 k, .int .u8 0, .int .u8 0] 5)).cell? ⟨w.heap.size, 0, none⟩ = some (.int .i64 s) := by simp [go_sem, World.cell?_alloc_past]
  have q1 : ((w.alloc (.cells #[.int .i64 s, .int .i64 d, .int .i64 t, .int .i64 k, .int .i64 i, .slice a n c] 42)).alloc
      (.cells #[.int .u8 69, .int .u8 0, .int .u8 ((20 + ↑n) / 256), .int .u8 ((20 + ↑n) % 256), .int .u8 (i / 256), .int .u8 (i % 256), .int .u8 64, .int .u8 0, .int .u8 t, .int .u8 k, .int .u8 0, .int .u8 0] 5)).cell? ⟨w.heap.size, 1, none⟩ = some (.int .i64 d) := by simp [go_sem, World.cell?_alloc_past]
  have q5 : ((w.alloc (.cells #[.int .i64 s, .int .i64 d, .int .i64 t, .int .i64 k, .int .i64 i, .slice a n c] 42)).alloc
      (.cells #[.int .u8 69, .int .u8 0, .int .u8 ((20 + ↑n) / 256), .int .u8 ((20 + ↑n) % 256), .int .u8 (i / 256), .int .u8 (i % 256), .int .u8 64, .int .u8 0, .int .u8 t, .int .u8 k, .int .u8 0, .int .u8 0] 5)).cell? ⟨w.heap.size, 5, none⟩ = some (.slice a n c) := by simp [go_sem, World.cell?_alloc_past]
  have o1 := Own.built (w.alloc (.cells #[.int .i64 s, .int .i64 d, .int .i64 t, .int .i64 k, .int .i64 i, .slice a n c] 42)) (w.heap.size + 1)
      #[.int .u8 69, .int .u8 0, .int .u8 ((20 + ↑n) / 256), .int .u8 ((20 + ↑n) % 256), .int .u8 (i / 256), .int .u8 (i % 256), .int .u8 64, .int .u8 0, .int .u8 t, .int .u8 k, .int .u8 0, .int .u8 0] (Pl.first4 t k i n 0) 12 rfl rfl (by simp) (by simp [Pl.first4])
  have hsz : ((w.alloc (.cells #[.int .i64 s, .int .i64 d, .int .i64 t, .int .i64 k, .int .i64 i, .slice a n c] 42)).alloc
      (.cells #[.int .u8 69, .int .u8 0, .int .u8 ((20 + ↑n) / 256), .int .u8 ((20 + ↑n) % 256), .int .u8 (i / 256), .int .u8 (i % 256), .int .u8 64, .int .u8 0, .int .u8 t, .int .u8 k, .int .u8 0, .int .u8 0] 5)).heap.size = w.heap.size + 2 := by simp
  simp only [World.size_alloc] at o1
  generalize (w.alloc (.cells #[.int .i64 s, .int .i64 d, .int .i64 t, .int .i64 k, .int .i64 i, .slice a n c] 42)).alloc _ = W1 at *
  have hsz1 : w.heap.size + 2 ≤ W1.heap.size := by omega
  clear hsz
  go_region_held3 (fun w' => w'.cell? ⟨w.heap.size, 0, none⟩ = some (.int .i64 s) ∧ w'.cell? ⟨w.heap.size, 1, none⟩ = some (.int .i64 d))
    (first | go_keep | (refine ⟨?_, ?_⟩ <;> go_keep) | (go_split_ands; refine ⟨?_, ?_⟩ <;> go_keep) | (go_split_ands; refine ⟨?_, ?_⟩ <;> (rw [b2.cell (by simp; omega)]; first | assumption | simp [*])) | (go_split_ands; refine ⟨?_, ?_⟩ <;> (rw [b3.cell (by simp)]; assumption)) | (go_split_ands; refine ⟨?_, ?_⟩ <;> (rw [b4.cell (by have h2 := b2.size; have h3 := b3.size; simp at h2; simp; omega)]; assumption)) | (go_split_ands; refine ⟨?_, ?_⟩ <;> (rw [b5.cell (by simp)]; assumption)))
    (first
      | (go_at_call 25; (with_reducible refine (raw4_any s _ s0 s1).mono ?_); rintro e W2 ⟨v2, rfl, o2, b2⟩; obtain ⟨a2, n2, c2, rfl, l2, r2⟩ := o2.read; obtain rfl : 4 = n2 := r2.len)
      | (go_at_call 25; (with_reducible refine (raw4_any d _ d0 d1).mono ?_); rintro e W4 ⟨v4, rfl, o4, b4⟩; obtain ⟨a4, n4, c4, rfl, l4, r4⟩ := o4.read; obtain rfl : 4 = n4 := r4.len)
      | (refine step_app (by rfl) (Operand.tmp 29) (Operand.tmp 32) (by rfl) (w.heap.size + 1) _ (Pl.first4 t k i n 0) (by rfl) ?_ _ _ _ (Pl.four s) (by rfl) ?_ ?_ ?_ ?_; go_must ((exact o1.drew.below b2 o1.drew.lt')); go_must (exact r2); go_must ((simp [Pl.first4])); go_must ((have := b2.size; simp at this; omega)); intro v3 W3 o3 b3)
      | (refine step_app (by rfl) (Operand.tmp 33) (Operand.tmp 36) (by rfl) (w.heap.size + 1) _ (Pl.first4 t k i n 0 ++ Pl.four s) (by rfl) ?_ _ _ _ (Pl.four d) (by rfl) ?_ ?_ ?_ ?_; go_must (exact o3.below b4 o3.lt'); go_must (exact r4); go_must ((simp [Pl.first4, Pl.four])); go_must ((have h2 := b2.size; have h3 := b3.size; have h4 := b4.size; simp at h2; omega)); intro v5 W5 o5 b5))
  have hs2 := b2.size
  have hs3 := b3.size
  have hs4 := b4.size
  simp only [World.size_drew] at hs2
  have B5 : Below w.heap.size w W5 := (((B1.drew.trans (b2.mono (by simp; omega))).trans (b3.mono (by omega))).trans (b4.mono (by omega))).trans (b5.mono (by omega))
  have q5' : W5.cell? ⟨w.heap.size, 5, none⟩ = some (.slice a n c) := by
    rw [b5.cell (by simp), b4.cell (by simp; omega), b3.cell (by simp), b2.cell (by simp; omega)]
    simpa using q5
  have HH : Pl.first4 t k i n 0 ++ Pl.four s ++ Pl.four d = Pl.head4 s d t k i n 0 := rfl
  rw [HH] at o5
  clear HH q0 q1 q5 b2 b3 b4 r2 r4 o1 o2 o3 o4 hs2 hs3 hs4 l2 l4
  have hB := Pl.head4_isB hok (n := (n : Int)) (c := 0) (by omega) (by omega)
  have hsum := Pl.sum4_bd s d t k i n
  obtain ⟨gg, nn, cc, rfl, hnn, hcc, hg0, hg1, hcell, hfr⟩ := o5.shape (by rw [Pl.head4_length]; omega)
  obtain rfl : 20 = nn := hnn
  have hc10 := hcell 10 (by omega)
  have hc11 := hcell 11 (by omega)
  have hf10 := hfr 10
  have hf11 := hfr 11
  clear hcell hfr
  obtain ⟨pa, na, ca, hpa, _, r5⟩ := o5.read
  cases hpa
  go_wp2_with fail
  with_reducible refine (raw_any _ _ _ _ _ r5 hB (by omega)).mono ?_
  rintro e w' ⟨rfl, rfl⟩
  have hC : Pl.fold (Pl.raw 0 (Pl.head4 s d t k i n 0)) = 65535 - Pl.sum4 s d t k i n := by unfold Pl.sum4; omega
  rw [hC]
  clear hC
  have e9 : IntKind.u8.wrap (Pl.sum4 s d t k i n) = Pl.sum4 s d t k i n % 256 := by rw [IntKind.wrap_u8]
  generalize hcs : Pl.sum4 s d t k i n = C at *
  have HCS := Lib.hid hcs
  clear hcs
  obtain ⟨c0, c1⟩ := hsum
  have e10 : (65535 - (65535 - C)) = C := by omega
  have e8 : IntKind.i64.wrap (65535 - (65535 - C)) = C := by rw [e10]; exact IntWalk.i64_in _ (by omega)
  go_wp2_with (at_builtin; refine Halt.out ?_)
  refine Halt.mk ?_
  have o6 := (o5.store 10 (C / 256)).store 11 (C % 256)
  rw [Pl.head4_set] at o6
  have B6 : Below w.heap.size w ((W5.setCell ⟨gg, 10, none⟩ (.int .u8 (C / 256))).setCell ⟨gg, 11, none⟩ (.int .u8 (C % 256))) :=
    (B5.setCell (p := ⟨gg, 10, none⟩) (by show w.heap.size ≤ gg; omega) _).setCell (p := ⟨gg, 11, none⟩) (by show w.heap.size ≤ gg; omega) _
  have hsz6 : w.heap.size + 1 ≤ ((W5.setCell ⟨gg, 10, none⟩ (.int .u8 (C / 256))).setCell ⟨gg, 11, none⟩ (.int .u8 (C % 256))).heap.size := by simp; omega
  refine app rfl _ _ rfl (w.heap.size + 1) _ _ rfl o6 a n c b rfl (hr.below B6) (by rw [Pl.head4_length]; omega) hsz6 ?_
  intro v7 W7 o7 b7
  go_wp2_with fail
  go_ret
  refine ⟨v7, rfl, ?_, B6.trans (b7.mono (by omega))⟩
  unfold Pl.enc4
  rw [HL.out, HCS.out]
  exact o7.mono (by omega)
end Go.Proofs.YtbjogkpepfgegaaDoor
namespace Go.Proofs.YtbjogkpepfgegaaDoor
open Go.RowKit
theorem Tryd.elemBytes : Tryd.prog.elem 27 = 5 := by kernel_rfl
theorem Tryd.sizeByte : ∀ w : World, (sizeOf 5).run Tryd.prog w = .ok 1 w := fun w => by kernel_rfl

/-- x[lo:hi]. -/
theorem slice_bytes (a : Option Addr) (n c lo len : Nat) (i j : Int) (hi0 : i = lo) (hj0 : j = ((lo + len : Nat) : Int)) (hhi : lo + len ≤ n) (hnc : n ≤ c) (hn : a = none → c = 0) :
    ∃ AA cc, (∀ (w : World) (xs : List Int), Ints .u8 w a n xs → Ints .u8 w AA len ((xs.drop lo).take len)) ∧ (AA = none → cc = 0) ∧ len ≤ cc ∧
      ∀ W : World, (Instr.slice 27 (.slice a n c) (some (.int .i64 i)) (some (.int .i64 j)) none).run Tryd.prog W = .ok (.slice AA len cc) W := by
  subst hi0 hj0
  refine ⟨if c = lo then a else a.map (·.add (lo * 1)), c - lo, fun w xs h => ?_, fun h => ?_, by omega, fun W => ?_⟩
  · by_cases hz : len = 0
    · exact ⟨by rw [List.length_take, List.length_drop, h.1]; omega, .inl hz⟩
    · obtain ⟨b, off, rfl, _, _⟩ := h.at (by omega)
      rw [if_neg (by omega), Option.map_some, Addr.add_lit, Nat.mul_one]
      have := h.sub lo (lo + len) (by omega) hhi
      rwa [Nat.add_sub_cancel_left] at this
  · cases a with
    | none => have := hn rfl; omega
    | some p =>
      by_cases hc : c = lo
      · rw [if_pos hc] at h; cases h
      · rw [if_neg hc] at h; cases h
  · rw [run_slice_lh W 27 a n c (by rw [Tryd.elemBytes]; exact Tryd.underlying27) .i64 .i64 (lo : Int) ((lo + len : Nat) : Int) (by omega) (by omega) (by omega), Tryd.elemBytes, Tryd.sizeByte]
    simp only [Result.andThen_ok, sliced, Int.toNat_natCast, Nat.add_sub_cancel_left]
/-- What is owned, read where it is handed on; nil has no room. -/
theorem Own.readn {w : World} {B : Nat} {v : Value} {xs : List Int} (h : Own w B v xs) : ∃ a n cap, v = .slice a n cap ∧ n ≤ cap ∧ Ints .u8 w a n xs ∧ (a = none → cap = 0) := by
  have h0 := h
  rcases h.2 with ⟨rfl, hn⟩ | ⟨g, cap, cur, rfl, _⟩
  · obtain rfl : xs = [] := List.length_eq_zero_iff.1 hn
    exact ⟨none, 0, 0, rfl, Nat.le_refl _, Ints.nil, fun _ => rfl⟩
  · obtain ⟨a, n, cap', hv, hc, hi⟩ := h0.read
    cases hv
    exact ⟨_, _, _, rfl, hc, hi, fun h => by cases h⟩
theorem only_trans {a b c : World} {g : Nat} (h : a.grownBy b (some g)) (k : b.grownBy c (some g)) : a.grownBy c (some g) :=
  ⟨k.os.trans h.os, k.tape.trans h.tape, k.output.trans h.output, Nat.le_trans h.size k.size, fun i hi hne => (k.block i (Nat.lt_of_lt_of_le hi h.size) hne).trans (h.block i hi hne)⟩
theorem only_ext {a b c : World} {g : Nat} (h : a.grownBy b (some g)) (k : Ext b c) : a.grownBy c (some g) := only_trans h ⟨k.os, k.tape, k.output, k.size, fun i hi _ => k.block i hi⟩
theorem getD_all {xs : List Int} {P : Int → Prop} (h : ∀ x ∈ xs, P x) (h0 : P 0) (k : Nat) : P (xs.getD k 0) := by
  by_cases hk : k < xs.length
  · rw [List.getD_eq_getElem?_getD, List.getElem?_eq_getElem hk]
    exact h _ (List.getElem_mem hk)
  · rw [List.getD_eq_getElem?_getD, List.getElem?_eq_none (by omega)]
    exact h0
end Go.Proofs.YtbjogkpepfgegaaDoor
