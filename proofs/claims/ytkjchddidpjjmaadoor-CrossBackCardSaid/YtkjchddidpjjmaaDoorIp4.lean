/- The contracts of package ip4. Conditions: as each theorem states them. -/
import Derived.Test.YtkjchddidpjjmaaDoorStr
import Derived.Test.YtkjchddidpjjmaaDoorAddr
import Derived.Test.YtkjchddidpjjmaaDoorSum
import Derived.Deep.RegionHeld3
namespace Go.Proofs.YtkjchddidpjjmaaDoor
open Go.RowKit

/-- A packet as a value. -/
def pk4 (s d t k i : Int) (b : Value) : Value := .agg #[.int .i64 s, .int .i64 d, .int .i64 t, .int .i64 k, .int .i64 i, b]
namespace Pl
/-- Are a packet's numbers such that may be? -/
def Ok4 (s d t k i : Int) : Prop := (0 ≤ s ∧ s < 4294967296) ∧ (0 ≤ d ∧ d < 4294967296) ∧ (0 ≤ t ∧ t ≤ 255) ∧ (0 ≤ k ∧ k ≤ 255) ∧ (0 ≤ i ∧ i ≤ 65535)
end Pl

set_option maxHeartbeats 800000 in
theorem check4_ok (s d t k i : Int) (a : Option Addr) (n c : Nat) (w : World) (h : Pl.Ok4 s d t k i) (hn : n ≤ 320) :
    Calls Tryd.prog 84 #[pk4 s d t k i (.slice a n c)] w fun e w' => e = .returned .nilIface ∧ Below w.heap.size w w' := by
  obtain ⟨⟨s0, s1⟩, ⟨d0, d1⟩, ⟨t0, t1⟩, ⟨k0, k1⟩, ⟨i0, i1⟩⟩ := h
  unfold pk4
  go_enter Tryd.func84, Tryd.ntmps84
  go_wp2_with (go_at_call 53; refine (is_yes _ _ (by assumption) (by assumption)).mono ?_; rintro e w' ⟨rfl, rfl⟩)
  go_ret
  exact ⟨rfl, by go_grown⟩
set_option maxHeartbeats 800000 in
theorem check4_full (s d t k i : Int) (a : Option Addr) (n c : Nat) (w : World) (h : Pl.Ok4 s d t k i) (hn : 320 < n) :
    Calls Tryd.prog 84 #[pk4 s d t k i (.slice a n c)] w fun e w' => e = .returned (errv 3) ∧ Below w.heap.size w w' := by
  obtain ⟨⟨s0, s1⟩, ⟨d0, d1⟩, ⟨t0, t1⟩, ⟨k0, k1⟩, ⟨i0, i1⟩⟩ := h
  unfold pk4
  go_enter Tryd.func84, Tryd.ntmps84
  go_wp2_with (go_at_call 53; refine (is_yes _ _ (by assumption) (by assumption)).mono ?_; rintro e w' ⟨rfl, rfl⟩)
  go_ret
  exact ⟨rfl, by go_grown⟩
set_option maxHeartbeats 1600000 in
theorem check4_range (s d t k i : Int) (a : Option Addr) (n c : Nat) (w : World) (h : ¬ Pl.Ok4 s d t k i) :
    Calls Tryd.prog 84 #[pk4 s d t k i (.slice a n c)] w fun e w' => e = .returned (errv 1) ∧ Below w.heap.size w w' := by
  have H := Lib.hid h
  clear h
  unfold pk4
  by_cases hs : 0 ≤ s ∧ s < 4294967296
  case neg =>
    have HS := Lib.hid hs
    clear hs
    go_enter Tryd.func84, Tryd.ntmps84
    go_wp2_with (go_at_call 53; refine (is_no _ _ HS.out).mono ?_; rintro e w' ⟨rfl, rfl⟩)
    go_ret
    exact ⟨rfl, by go_grown⟩
  by_cases hd : 0 ≤ d ∧ d < 4294967296
  case neg =>
    have HS := Lib.hid hd
    have HT := Lib.hid hs
    clear hs hd
    go_enter Tryd.func84, Tryd.ntmps84
    go_wp2_with (go_at_call 53; first | ((with_reducible refine (is_no d _ HS.out).mono ?_); rintro e w' ⟨rfl, rfl⟩) | ((with_reducible refine (is_yes s _ HT.out.1 HT.out.2).mono ?_); rintro e w' ⟨rfl, rfl⟩))
    go_ret
    exact ⟨rfl, by go_grown⟩
  obtain ⟨s0, s1⟩ := hs
  obtain ⟨d0, d1⟩ := hd
  by_cases ht0 : 0 ≤ t
  case neg =>
    go_enter Tryd.func84, Tryd.ntmps84
    go_wp2_with (go_at_call 53; refine (is_yes _ _ (by assumption) (by assumption)).mono ?_; rintro e w' ⟨rfl, rfl⟩)
    go_ret
    exact ⟨rfl, by go_grown⟩
  by_cases ht1 : t ≤ 255
  case neg =>
    go_enter Tryd.func84, Tryd.ntmps84
    go_wp2_with (go_at_call 53; refine (is_yes _ _ (by assumption) (by assumption)).mono ?_; rintro e w' ⟨rfl, rfl⟩)
    go_ret
    exact ⟨rfl, by go_grown⟩
  by_cases hk0 : 0 ≤ k
  case neg =>
    go_enter Tryd.func84, Tryd.ntmps84
    go_wp2_with (go_at_call 53; refine (is_yes _ _ (by assumption) (by assumption)).mono ?_; rintro e w' ⟨rfl, rfl⟩)
    go_ret
    exact ⟨rfl, by go_grown⟩
  by_cases hk1 : k ≤ 255
  case neg =>
    go_enter Tryd.func84, Tryd.ntmps84
    go_wp2_with (go_at_call 53; refine (is_yes _ _ (by assumption) (by assumption)).mono ?_; rintro e w' ⟨rfl, rfl⟩)
    go_ret
    exact ⟨rfl, by go_grown⟩
  by_cases hi0 : 0 ≤ i
  case neg =>
    go_enter Tryd.func84, Tryd.ntmps84
    go_wp2_with (go_at_call 53; refine (is_yes _ _ (by assumption) (by assumption)).mono ?_; rintro e w' ⟨rfl, rfl⟩)
    go_ret
    exact ⟨rfl, by go_grown⟩
  have hi1 : ¬ i ≤ 65535 := fun hi1 => H.out ⟨⟨s0, s1⟩, ⟨d0, d1⟩, ⟨ht0, ht1⟩, ⟨hk0, hk1⟩, ⟨hi0, hi1⟩⟩
  go_enter Tryd.func84, Tryd.ntmps84
  go_wp2_with (go_at_call 53; refine (is_yes _ _ (by assumption) (by assumption)).mono ?_; rintro e w' ⟨rfl, rfl⟩)
  go_ret
  exact ⟨rfl, by go_grown⟩
end Go.Proofs.YtkjchddidpjjmaaDoor
