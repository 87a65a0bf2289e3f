/- The document's answers of layer 1: Word, Fold, SumOf. Conditions: as each theorem states them. -/
import Derived.Test.YtkjchddidpjjmaaDoorSum
namespace Go.Proofs.YtkjchddidpjjmaaDoor
open Go.RowKit
/-- Is a number one of 16 bits? -/
def w16 (n : Int) : Bool := decide (0 ≤ n) && decide (n ≤ 65535)
theorem w16_yes {n : Int} (h : w16 n = true) : 0 ≤ n ∧ n ≤ 65535 := by unfold w16 at h; simpa using h
theorem w16_no {n : Int} (h : w16 n = false) : decide (0 ≤ n ∧ n ≤ 65535) = false := by
  unfold w16 at h
  by_cases h0 : 0 ≤ n <;> by_cases h1 : n ≤ 65535 <;> simp_all
theorem word_any (n : Int) (w : World) : Calls Tryd.prog 29 #[.int .i64 n] w fun e w' => e = .returned (.bool (w16 n)) ∧ w = w' := by
  by_cases h0 : 0 ≤ n
  · by_cases h1 : n ≤ 65535
    · have hw : w16 n = true := by unfold w16; simp [h0, h1]
      rw [hw]
      clear hw
      go_enter Tryd.func29, Tryd.ntmps29
      go_wp2
      go_ret
      exact ⟨rfl, rfl⟩
    · have hw : w16 n = false := by unfold w16; simp [h0, h1]
      rw [hw]
      clear hw
      go_enter Tryd.func29, Tryd.ntmps29
      go_wp2
      go_ret
      exact ⟨rfl, rfl⟩
  · have hw : w16 n = false := by unfold w16; simp [h0]
    rw [hw]
    clear hw
    go_enter Tryd.func29, Tryd.ntmps29
    go_wp2
    go_ret
    exact ⟨rfl, rfl⟩
theorem rfold_any (n : Int) (w : World) (h0 : 0 ≤ n) (h1 : n < 4611686018427387904) : Calls Tryd.prog 65 #[.int .i64 n] w fun e w' => e = .returned (.int .i64 (Pl.fold n)) ∧ w = w' := by
  by_cases hn : n = 0
  · subst hn
    go_enter Tryd.func65, Tryd.ntmps65
    go_wp2
    go_ret
    exact ⟨rfl, rfl⟩
  · have hz : (n == 0) = false := by simpa using hn
    have hf : Pl.fold n = (n - 1) % 65535 + 1 := by unfold Pl.fold; rw [if_neg hn]
    have e1 : IntKind.i64.wrap (n - 1) = n - 1 := IntWalk.i64_in _ (by omega)
    have e2 : IntKind.i64.wrap ((n - 1).tmod 65535) = (n - 1) % 65535 := by rw [Int.tmod_eq_emod_of_nonneg (by omega)]; exact IntWalk.i64_in _ (by omega)
    have e3 : IntKind.i64.wrap ((n - 1) % 65535 + 1) = (n - 1) % 65535 + 1 := IntWalk.i64_in _ (by omega)
    rw [hf]
    clear hf
    go_enter Tryd.func65, Tryd.ntmps65
    go_wp2
    go_ret
    exact ⟨rfl, rfl⟩

set_option maxHeartbeats 1000000 in
theorem sumOf_any (a : Option Addr) (n c : Nat) (xs : List Int) (w : World) (hx : Ints .u8 w a n xs) (hb : Pl.IsB xs) (hn : n ≤ 65536) :
    Calls Tryd.prog 66 #[.slice a n c] w fun e w' => e = .returned (.int .i64 (Pl.fold (Pl.raw 0 xs))) ∧ w = w' := by
  have HX := Lib.hid hx
  have hl := hx.len
  have HL := Lib.hid hl
  have hbd := Pl.raw_bd hb 0
  clear hx hl
  go_enter Tryd.func66, Tryd.ntmps66
  go_wp2_with fail
  go_loopw [3, 4] (fun s i wr => w = wr ∧ ∃ k : Nat, (2 * k ≤ n + 1) ∧ i = .int .i64 ((2 * k : Nat) : Int) ∧ s = .int .i64 (Pl.raw 0 (xs.take (2 * k)))) (fun _ i _ => n + 1 - (intOf i).toNat)
  case atStart => exact ⟨rfl, 0, by omega, rfl, rfl⟩
  case round =>
    obtain ⟨rfl, k, hk, rfl, rfl⟩ := hrel
    obtain ⟨m, hm⟩ : ∃ m, m = 2 * k := ⟨_, rfl⟩
    have hm2 : m % 2 = 0 := by omega
    rw [← hm] at hk ⊢
    have HM := Lib.hid hm
    clear hm
    have hB := Pl.raw_bd (hb.take m) 0
    have hkl : (xs.take m).length ≤ m := List.length_take_le _ _
    by_cases hlt : m < n
    · obtain ⟨b, off, rfl, hbl, hc⟩ := HX.out.at (by omega)
      have hsn := Pl.raw_snoc (xs.take m) (xs.getD m 0)
      rw [← take_snoc xs m (by rw [HL.out]; exact hlt), List.length_take_of_le (by rw [HL.out]; omega), if_pos hm2] at hsn
      have hbx := hb.getD m
      have hcell := hc m hlt
      have hlt' : (m : Int) < (n : Int) := by omega
      have hm1 : IntKind.i64.wrap ((m : Int) + 1) = (m : Int) + 1 := IntWalk.i64_in _ (by omega)
      have hm3 : IntKind.i64.wrap ((m : Int) + 2) = (m : Int) + 2 := IntWalk.i64_in _ (by omega)
      by_cases hlt2 : m + 1 < n
      · have hsn2 := Pl.raw_snoc (xs.take (m + 1)) (xs.getD (m + 1) 0)
        rw [← take_snoc xs (m + 1) (by rw [HL.out]; exact hlt2), List.length_take_of_le (by rw [HL.out]; omega), if_neg (by omega)] at hsn2
        have hbx2 := hb.getD (m + 1)
        have hcell2 : w.cell? ⟨b, off + (m + 1), none⟩ = _ := hc (m + 1) hlt2
        rw [hsn] at hsn2
        have ht : xs.take (2 * (k + 1)) = xs.take (m + 1 + 1) := by rw [HM.out]; rfl
        have HT := Lib.hid (show Pl.raw 0 (xs.take (2 * (k + 1))) = Pl.raw 0 (xs.take m) + 256 * xs.getD m 0 + xs.getD (m + 1) 0 by rw [ht]; exact hsn2)
        generalize xs.getD m 0 = x at *
        generalize xs.getD (m + 1) 0 = y at *
        generalize Pl.raw 0 (xs.take m) = s at *
        have hlt2' : (m : Int) + 1 < (n : Int) := by omega
        have en : ((m : Int) + 1).toNat = m + 1 := by omega
        have e1 : IntKind.i64.wrap (256 * x) = 256 * x := IntWalk.i64_in _ (by omega)
        have e2 : IntKind.i64.wrap (s + 256 * x) = s + 256 * x := IntWalk.i64_in _ (by omega)
        have e3 : IntKind.i64.wrap (s + 256 * x + y) = s + 256 * x + y := IntWalk.i64_in _ (by omega)
        have HC := Lib.hid hc
        clear hsn hsn2 hc hbd ht
        go_wp2_with fail
        go_roundw
        case rel => exact ⟨trivial, k + 1, by have := HM.out; omega, by rw [show 2 * (k + 1) = m + 2 by have := HM.out; omega]; simp, by rw [HT.out]⟩
        case measure => simp [intOf] <;> omega
      · have ht : xs.take (2 * (k + 1)) = xs.take (m + 1) := by rw [List.take_of_length_le (by have := HM.out; rw [HL.out]; omega), List.take_of_length_le (by rw [HL.out]; omega)]
        have HT := Lib.hid (show Pl.raw 0 (xs.take (2 * (k + 1))) = Pl.raw 0 (xs.take m) + 256 * xs.getD m 0 by rw [ht]; exact hsn)
        generalize xs.getD m 0 = x at *
        generalize Pl.raw 0 (xs.take m) = s at *
        have hlt2' : ¬ (m : Int) + 1 < (n : Int) := by omega
        have e1 : IntKind.i64.wrap (256 * x) = 256 * x := IntWalk.i64_in _ (by omega)
        have e2 : IntKind.i64.wrap (s + 256 * x) = s + 256 * x := IntWalk.i64_in _ (by omega)
        clear hsn hc hbd ht
        go_wp2_with fail
        go_roundw
        case rel => exact ⟨trivial, k + 1, by have := HM.out; omega, by rw [show 2 * (k + 1) = m + 2 by have := HM.out; omega]; simp, by rw [HT.out]⟩
        case measure => simp [intOf] <;> omega
    · have hx : xs.take m = xs := List.take_of_length_le (by rw [HL.out]; omega)
      rw [hx] at hB ⊢
      have hlt' : ¬ (m : Int) < (n : Int) := by omega
      go_wp2_with fail
      refine (rfold_any _ w hbd.1 (by have := HL.out; omega)).mono ?_
      rintro e w' ⟨rfl, rfl⟩
      go_wp2_with fail
      go_ret
      exact ⟨rfl, rfl⟩
end Go.Proofs.YtkjchddidpjjmaaDoor
