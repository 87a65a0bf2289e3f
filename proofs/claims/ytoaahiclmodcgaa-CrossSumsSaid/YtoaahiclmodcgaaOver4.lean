/- The contracts of seg.Over4, seg.Over6 and of the document's answers to them. Conditions: as each theorem states them. -/
import Derived.Test.YtoaahiclmodcgaaOver
namespace Go.Proofs.Ytoaahiclmodcgaa
open Go.RowKit
def ok4 (s d k n : Int) : Bool := w32 s && w32 d && okO k n
def val4 (s d k n : Int) : Int := Pl.fold (Pl.raw 0 (Pl.four s ++ Pl.four d ++ Pl.two [k, n]))

set_option maxRecDepth 100000 in
set_option maxHeartbeats 1000000 in
theorem over4_any (s d k n : Int) (w : World) :
    Calls Try.prog 45 #[.int .i64 s, .int .i64 d, .int .i64 k, .int .i64 n] w fun e w' => e = .returned (.tuple #[.int .i64 (bO (ok4 s d k n) (val4 s d k n)), erv (eO (ok4 s d k n))]) ∧ Ext w w' := by
  cases hs : w32 s
  case false =>
    have ho : ok4 s d k n = false := by unfold ok4; rw [hs]; rfl
    rw [ho]
    have HS := Lib.hid hs
    clear ho hs
    go_enter Try.func45, Try.ntmps45
    go_wp2_with fail
    refine (is_any s w).mono ?_
    rintro e w' ⟨rfl, rfl⟩
    rw [HS.out]
    go_wp2_with fail
    go_ret2
    exact ⟨rfl, Ext.refl _⟩
  cases hd : w32 d
  case false =>
    have ho : ok4 s d k n = false := by unfold ok4; rw [hs, hd]; rfl
    rw [ho]
    have HS := Lib.hid hs
    have HD := Lib.hid hd
    clear ho hs hd
    go_enter Try.func45, Try.ntmps45
    go_wp2_with fail
    refine (is_any s w).mono ?_
    rintro e w' ⟨rfl, rfl⟩
    rw [HS.out]
    go_wp2_with fail
    refine (is_any d w).mono ?_
    rintro e w' ⟨rfl, rfl⟩
    rw [HD.out]
    go_wp2_with fail
    go_ret2
    exact ⟨rfl, Ext.refl _⟩
  have ho : ok4 s d k n = okO k n := by unfold ok4; rw [hs, hd]; rfl
  rw [ho]
  obtain ⟨s0, s1⟩ := w32_yes hs
  obtain ⟨d0, d1⟩ := w32_yes hd
  have HS := Lib.hid hs
  have HD := Lib.hid hd
  clear ho hs hd
  go_enter Try.func45, Try.ntmps45
  go_wp2_with fail
  refine (is_any s w).mono ?_
  rintro e w' ⟨rfl, rfl⟩
  rw [HS.out]
  go_wp2_with fail
  refine (is_any d w).mono ?_
  rintro e w' ⟨rfl, rfl⟩
  rw [HD.out]
  go_wp2_with fail
  refine (raw4_any s w s0 s1).mono ?_
  rintro e W1 ⟨v1, rfl, o1, q1⟩
  obtain ⟨a1, n1, c1, rfl, _, r1⟩ := o1.read
  have h1 : 4 = n1 := r1.len
  go_wp2_with fail
  refine (raw4_any d W1 d0 d1).mono ?_
  rintro e W2 ⟨v2, rfl, o2, q2⟩
  obtain ⟨a2, n2, c2, rfl, _, r2⟩ := o2.read
  have h2 : 4 = n2 := r2.len
  have E2 : Ext w W2 := Ext.trans q1 q2
  go_wp2_with fail
  refine (over_any a1 n1 c1 (Pl.four s) a2 n2 c2 (Pl.four d) k n W2 (r1.ext q2) r2 (Pl.four_isB s0 s1) (Pl.four_isB d0 d1) (by omega)).mono ?_
  rintro e W3 ⟨rfl, q3⟩
  have hv : Pl.fold (Pl.raw 0 (Pl.four s ++ Pl.four d ++ Pl.two [k, n])) = val4 s d k n := rfl
  rw [hv]
  go_wp2_with fail
  go_ret2
  exact ⟨rfl, E2.trans q3⟩

end Go.Proofs.Ytoaahiclmodcgaa
