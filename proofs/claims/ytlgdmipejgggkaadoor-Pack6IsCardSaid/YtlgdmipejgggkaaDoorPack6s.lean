/- The contracts of gangplanksame.Pack6s (of two that are the same) and Pick. Conditions: as each theorem states them. -/
import Derived.Test.YtlgdmipejgggkaaDoorIp6
import Derived.Test.YtlgdmipejgggkaaDoorStr
import Derived.Test.YtlgdmipejgggkaaDoorSixEq
namespace Go.Proofs.YtlgdmipejgggkaaDoor
open Go.RowKit
set_option maxRecDepth 100000 in
set_option maxHeartbeats 1000000 in
theorem pack6s_yes (p : P6) (a a' : Option Addr) (n c n' c' : Nat) (xs : List Int) (w : World) (h1 : Ints .u8 w a n xs) (h2 : Ints .u8 w a' n' xs) :
    Calls Tryd.prog 22 #[p.v (.slice a n c), p.v (.slice a' n' c')] w fun e w' => e = .returned (.bool true) ∧ Ext w w' := by
  have K1 := (Blk.new w 39 (p.cells (.slice a n c))).alloc (.cells (p.cells (.slice a' n' c')) 39)
  have K2 := Blk.new (w.alloc (.cells (p.cells (.slice a n c)) 39)) 39 (p.cells (.slice a' n' c'))
  simp only [World.size_alloc] at K2
  have E2 := ((Ext.refl w).alloc (.cells (p.cells (.slice a n c)) 39)).alloc (.cells (p.cells (.slice a' n' c')) 39)
  have k1 := conv_str (c := c) (h1.ext E2)
  have k2 := conv_str (c := c') (h2.ext E2)
  have l1 := K1.p6src
  have l2 := K2.p6src
  have l3 := K1.p6dst
  have l4 := K2.p6dst
  obtain ⟨m0, m1, m2⟩ := K1.p6nums
  obtain ⟨m3, m4, m5⟩ := K2.p6nums
  have HE := Lib.hid E2
  have q1 := fun W => six_same p.src W
  have q2 := fun W => six_same p.dst W
  generalize strOfNums xs = z at k1 k2
  clear h1 h2 E2
  go_enter Tryd.func22, Tryd.ntmps22
  go_wp2_with ((apply load_by rfl _ _ rfl _ rfl); (focus (with_reducible assumption)))
  go_ret
  exact ⟨rfl, HE.out⟩
theorem pick_any (c n : Int) (w : World) (h0 : -9223372036854775808 ≤ c ∧ c ≤ 9223372036854775807) (hn : 0 < n ∧ n ≤ 100000) :
    Calls Tryd.prog 23 #[.int .i64 c, .int .i64 n] w fun e w' => ∃ k : Int, e = .returned (.int .i64 k) ∧ (0 ≤ k ∧ k < n) ∧ w = w' := by
  have hnz : ¬ n = 0 := by omega
  by_cases hc : c < 0
  · have e1 : IntKind.i64.wrap (c + 1) = c + 1 := IntWalk.i64_in _ (by omega)
    have e2 : IntKind.i64.wrap (-(c + 1)) = -(c + 1) := IntWalk.i64_in _ (by omega)
    have e3 : IntKind.i64.wrap ((-(c + 1)).tmod n) = (-(c + 1)) % n := by
      rw [Int.tmod_eq_emod_of_nonneg (by omega)]
      have h1 := Int.emod_nonneg (-(c + 1)) (show n ≠ 0 by omega)
      have h2 := Int.emod_lt_of_pos (-(c + 1)) hn.1
      exact IntWalk.i64_in _ (by omega)
    have HB := Lib.hid (show 0 ≤ -((c + 1).tmod n) ∧ -((c + 1).tmod n) < n by
      rw [← Int.neg_tmod, Int.tmod_eq_emod_of_nonneg (by omega)]
      exact ⟨Int.emod_nonneg _ (by omega), Int.emod_lt_of_pos _ hn.1⟩)
    go_enter Tryd.func23, Tryd.ntmps23
    go_wp2_with fail
    go_ret
    exact ⟨_, rfl, HB.out, rfl⟩
  · have e3 : IntKind.i64.wrap (c.tmod n) = c % n := by
      rw [Int.tmod_eq_emod_of_nonneg (by omega)]
      have h1 := Int.emod_nonneg c (show n ≠ 0 by omega)
      have h2 := Int.emod_lt_of_pos c hn.1
      exact IntWalk.i64_in _ (by omega)
    have HB := Lib.hid (show 0 ≤ c % n ∧ c % n < n from ⟨Int.emod_nonneg _ (by omega), Int.emod_lt_of_pos _ hn.1⟩)
    go_enter Tryd.func23, Tryd.ntmps23
    go_wp2_with fail
    go_ret
    exact ⟨_, rfl, HB.out, rfl⟩
end Go.Proofs.YtlgdmipejgggkaaDoor
