/- The contracts of gangplanksame.Pack6s (of two that are the same) and Pick. Conditions: as each theorem states them. -/
import Derived.Test.YtapmbjmcbllalaaDoorIp6
import Derived.Test.YtapmbjmcbllalaaDoorStr
import Derived.Test.YtapmbjmcbllalaaDoorSixEq
namespace Go.Proofs.YtapmbjmcbllalaaDoor
open Go.RowKit
theorem pick_any (c n : Int) (w : World) (h0 : -9223372036854775808 ≤ c ∧ c ≤ 9223372036854775807) (hn : 0 < n ∧ n ≤ 100000) :
    Calls Tryd.prog 9 #[.int .i64 c, .int .i64 n] w fun e w' => ∃ k : Int, e = .returned (.int .i64 k) ∧ (0 ≤ k ∧ k < n) ∧ w = w' := by
  have hnz : ¬ n = 0 := by omega
  by_cases hc : c < 0
  · have e1 : IntKind.i64.wrap (c + 1) = c + 1 := IntWalk.i64_in _ (by omega)
    have e2 : IntKind.i64.wrap (-(c + 1)) = -(c + 1) := IntWalk.i64_in _ (by omega)
    have e3 : IntKind.i64.wrap ((-(c + 1)).tmod n) = (-(c + 1)) % n := by
      rw [Int.tmod_eq_emod_of_nonneg (by omega)]
      have h1 := Int.emod_nonneg (-(c + 1)) (show n ≠ 0 by omega)
      have h2 := Int.emod_lt_of_pos (-(c + 1)) hn.1
      exact IntWalk.i64_in _ (by omega)
    have HB := Lib.hid (show 0 ≤ -((c + 1).tmod n) ∧ -((c + 1).tmod n) < n by
      rw [← Int.neg_tmod, Int.tmod_eq_emod_of_nonneg (by omega)]
      exact ⟨Int.emod_nonneg _ (by omega), Int.emod_lt_of_pos _ hn.1⟩)
    go_enter Tryd.func9, Tryd.ntmps9
    go_wp2_with fail
    go_ret
    exact ⟨_, rfl, HB.out, rfl⟩
  · have e3 : IntKind.i64.wrap (c.tmod n) = c % n := by
      rw [Int.tmod_eq_emod_of_nonneg (by omega)]
      have h1 := Int.emod_nonneg c (show n ≠ 0 by omega)
      have h2 := Int.emod_lt_of_pos c hn.1
      exact IntWalk.i64_in _ (by omega)
    have HB := Lib.hid (show 0 ≤ c % n ∧ c % n < n from ⟨Int.emod_nonneg _ (by omega), Int.emod_lt_of_pos _ hn.1⟩)
    go_enter Tryd.func9, Tryd.ntmps9
    go_wp2_with fail
    go_ret
    exact ⟨_, rfl, HB.out, rfl⟩
end Go.Proofs.YtapmbjmcbllalaaDoor
