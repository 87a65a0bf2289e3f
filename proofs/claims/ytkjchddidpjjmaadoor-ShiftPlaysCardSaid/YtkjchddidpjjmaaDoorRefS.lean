/- The document's answers on segments of a stream: SegFault. Conditions: as each theorem states them. -/
import Derived.Test.YtkjchddidpjjmaaDoorRef1
import Derived.Test.YtkjchddidpjjmaaDoorSeg
namespace Go.Proofs.YtkjchddidpjjmaaDoor
open Go.RowKit
theorem w16_of {n : Int} (h : 0 ≤ n ∧ n ≤ 65535) : w16 n = true := by unfold w16; simpa using h
theorem w16_not {n : Int} (h : ¬ (0 ≤ n ∧ n ≤ 65535)) : w16 n = false := by
  cases hw : w16 n
  · rfl
  · exact absurd (w16_yes hw) h
set_option maxRecDepth 100000 in
set_option maxHeartbeats 4000000 in
theorem rsegFault_any (s : Sg) (a : Option Addr) (n c : Nat) (w : World) :
    Calls Tryd.prog 27 #[s.v (.slice a n c)] w fun e w' => e = .returned (.int .i64 (Pl.segFault s n)) ∧ Ext w w' := by
  have K0 := Blk.new w 50 (s.cells (.slice a n c))
  have E0 : Ext w (w.alloc (.cells (s.cells (.slice a n c)) 50)) := (Ext.refl w).alloc _
  obtain ⟨c0, c1, c2, c3, c4, c5, c6, c7⟩ := K0.sg
  clear K0
  obtain ⟨k, f, t, q, m, fl, wi⟩ := s
  dsimp only at c0 c1 c2 c3 c4 c5 c6 c7
  have HC := Lib.hid (show ∀ r, Pl.segFault ⟨k, f, t, q, m, fl, wi⟩ n = r → Pl.segFault ⟨k, f, t, q, m, fl, wi⟩ n = r from fun _ h => h)
  obtain ⟨F, hF⟩ : ∃ F, Pl.segFault ⟨k, f, t, q, m, fl, wi⟩ n = F := ⟨_, rfl⟩
  rw [hF]
  unfold Pl.segFault Pl.Word at hF
  dsimp only at hF
  have HF := Lib.hid hF
  obtain ⟨bf, hbf⟩ : ∃ b, w16 f = b := ⟨_, rfl⟩
  obtain ⟨bt, hbt⟩ : ∃ b, w16 t = b := ⟨_, rfl⟩
  obtain ⟨bw, hbw⟩ : ∃ b, w16 wi = b := ⟨_, rfl⟩
  have HBF := Lib.hid hbf
  have HBT := Lib.hid hbt
  have HBW := Lib.hid hbw
  clear hF hbf hbt hbw HC
  go_enter Tryd.func27, Tryd.ntmps27
  go_wp2_with fail
  refine (word_any _ _).mono ?_
  rintro e' w' ⟨rfl, rfl⟩
  rw [HBF.out]
  go_wp2_with fail
  refine (word_any _ _).mono ?_
  rintro e' w' ⟨rfl, rfl⟩
  rw [HBT.out]
  by_cases hk : k = 6 ∨ k = 17
  case neg =>
    have e6 : (k != 6) = true := by simp; omega
    have e17 : (k != 17) = true := by simp; omega
    have HZ := Lib.hid (show F = 1 by have := HF.out; split at this <;> omega)
    clear hk
    go_wp2_with fail
    go_ret
    exact ⟨by rw [HZ.out]; try rfl, E0⟩
  cases hbf : bf
  case false =>
    subst hbf
    have HZ := Lib.hid (show F = 1 by have := HF.out; have h2 := HBF.out; have : ¬ (0 ≤ f ∧ f ≤ 65535) := fun h => by rw [w16_of h] at h2; cases h2
                                      split at * <;> omega)
    rcases hk with hk | hk
    case' inl => have e6 : (k != 6) = false := by rw [hk]; rfl
    case' inr =>
      have e6 : (k != 6) = true := by rw [hk]; rfl
      have e17 : (k != 17) = false := by rw [hk]; rfl
    all_goals
      clear hk
      go_wp2_with fail
      go_ret
      exact ⟨by rw [HZ.out]; try rfl, E0⟩
  subst hbf
  cases hbt : bt
  case false =>
    subst hbt
    have HZ := Lib.hid (show F = 1 by have := HF.out; have h2 := HBT.out; have : ¬ (0 ≤ t ∧ t ≤ 65535) := fun h => by rw [w16_of h] at h2; cases h2
                                      split at * <;> omega)
    rcases hk with hk | hk
    case' inl => have e6 : (k != 6) = false := by rw [hk]; rfl
    case' inr =>
      have e6 : (k != 6) = true := by rw [hk]; rfl
      have e17 : (k != 17) = false := by rw [hk]; rfl
    all_goals
      clear hk
      go_wp2_with fail
      go_ret
      exact ⟨by rw [HZ.out]; try rfl, E0⟩
  subst hbt
  have hf := w16_yes HBF.out
  have ht := w16_yes HBT.out
  have HG := Lib.hid (show (if k = 6 ∧ (q < 0 ∨ 4294967296 ≤ q ∨ m < 0 ∨ 4294967296 ≤ m ∨ fl < 0 ∨ 31 < fl ∨ ¬ (0 ≤ wi ∧ wi ≤ 65535)) then (1 : Int) else if k = 17 ∧ (q ≠ 0 ∨ m ≠ 0 ∨ fl ≠ 0 ∨ wi ≠ 0) then 2 else if 300 < n then 3 else 0) = F by
    have := HF.out
    rw [if_neg (by omega)] at this
    exact this)
  clear hf ht HF
  rcases hk with rfl | rfl
  case inr =>
    by_cases hz : q = 0 ∧ m = 0 ∧ fl = 0 ∧ wi = 0
    case neg =>
      have HZ := Lib.hid (show F = 2 by have := HG.out; rw [if_neg (by omega), if_pos (by omega)] at this; exact this.symm)
      obtain ⟨z0, hz0⟩ : ∃ b, (q != 0) = b := ⟨_, rfl⟩
      obtain ⟨z1, hz1⟩ : ∃ b, (m != 0) = b := ⟨_, rfl⟩
      obtain ⟨z2, hz2⟩ : ∃ b, (fl != 0) = b := ⟨_, rfl⟩
      obtain ⟨z3, hz3⟩ : ∃ b, (wi != 0) = b := ⟨_, rfl⟩
      have hall : (z0 || (z1 || (z2 || z3))) = true := by
        subst hz0 hz1 hz2 hz3
        simp
        omega
      clear hz
      cases z0
      case' false => cases z1
      case' false.false => cases z2
      case' false.false.false => cases z3
      case' false.false.false.false => cases hall
      all_goals
        clear hall
        go_wp2_with fail
        go_ret
        exact ⟨by rw [HZ.out]; try rfl, E0⟩
    obtain ⟨rfl, rfl, rfl, rfl⟩ := hz
    by_cases hn : n ≤ 300
    case neg =>
      have HZ := Lib.hid (show F = 3 by have := HG.out; rw [if_neg (by omega), if_neg (by omega), if_pos (by omega)] at this; exact this.symm)
      go_wp2_with fail
      refine (word_any _ _).mono ?_
      rintro e' w' ⟨rfl, rfl⟩
      go_wp2_with fail
      go_ret
      exact ⟨by rw [HZ.out]; try rfl, E0⟩
    have HZ := Lib.hid (show F = 0 by have := HG.out; rw [if_neg (by omega), if_neg (by omega), if_neg (by omega)] at this; exact this.symm)
    go_wp2_with fail
    refine (word_any _ _).mono ?_
    rintro e' w' ⟨rfl, rfl⟩
    go_wp2_with fail
    go_ret
    exact ⟨by rw [HZ.out]; try rfl, E0⟩
  case inl =>
    have HA := Lib.hid (show ¬ (0 ≤ q ∧ q < 4294967296 ∧ 0 ≤ m ∧ m < 4294967296 ∧ 0 ≤ fl ∧ fl ≤ 31 ∧ (0 ≤ wi ∧ wi ≤ 65535)) → F = 1 from fun h => by have := HG.out; rw [if_pos ⟨rfl, by omega⟩] at this; exact this.symm)
    have HB := Lib.hid (show (0 ≤ q ∧ q < 4294967296 ∧ 0 ≤ m ∧ m < 4294967296 ∧ 0 ≤ fl ∧ fl ≤ 31 ∧ (0 ≤ wi ∧ wi ≤ 65535)) → ¬ n ≤ 300 → F = 3 from fun h hn => by have := HG.out; rw [if_neg (by omega), if_neg (by omega), if_pos (by omega)] at this; exact this.symm)
    have HC := Lib.hid (show (0 ≤ q ∧ q < 4294967296 ∧ 0 ≤ m ∧ m < 4294967296 ∧ 0 ≤ fl ∧ fl ≤ 31 ∧ (0 ≤ wi ∧ wi ≤ 65535)) → n ≤ 300 → F = 0 from fun h hn => by have := HG.out; rw [if_neg (by omega), if_neg (by omega), if_neg (by omega)] at this; exact this.symm)
    clear HG
    go_wp2_with fail
    refine (word_any _ _).mono ?_
    rintro e' w' ⟨rfl, rfl⟩
    rw [HBW.out]
    by_cases hr : 0 ≤ q ∧ q < 4294967296 ∧ 0 ≤ m ∧ m < 4294967296 ∧ 0 ≤ fl ∧ fl ≤ 31 ∧ (0 ≤ wi ∧ wi ≤ 65535)
    case neg =>
      have HZ := Lib.hid (HA.out hr)
      have HW := Lib.hid (show bw = false → ¬ (0 ≤ wi ∧ wi ≤ 65535) from fun h1 h => by have h2 := HBW.out; rw [w16_of h, h1] at h2; cases h2)
      have HW2 := Lib.hid (show bw = true → (0 ≤ wi ∧ wi ≤ 65535) from fun h1 => w16_yes (HBW.out.trans h1))
      have hall : ¬ (0 ≤ q ∧ q < 4294967296 ∧ 0 ≤ m ∧ m < 4294967296 ∧ 0 ≤ fl ∧ fl ≤ 31 ∧ bw = true) := fun ⟨h0, h1, h2, h3, h4, h5, h6⟩ => hr ⟨h0, h1, h2, h3, h4, h5, HW2.out h6⟩
      have HALL := Lib.hid hall
      clear hr hall
      have hbw : bw = false ∨ bw = true := by cases bw <;> simp
      by_cases g0 : 0 ≤ q
      by_cases g1 : q ≤ 4294967295
      by_cases g2 : 0 ≤ m
      by_cases g3 : m ≤ 4294967295
      by_cases g4 : 0 ≤ fl
      by_cases g5 : fl ≤ 31
      rcases hbw with rfl | rfl
      rotate_left
      · exact absurd ⟨g0, by omega, g2, by omega, g4, g5, rfl⟩ HALL.out
      all_goals
        go_wp2_with fail
        go_ret
        exact ⟨by rw [HZ.out]; try rfl, E0⟩
    have HR := Lib.hid hr
    obtain ⟨g0, g1, g2, g3, g4, g5, g6⟩ := hr
    obtain rfl : true = bw := (w16_of g6).symm.trans HBW.out
    have g1' : q ≤ 4294967295 := by omega
    have g3' : m ≤ 4294967295 := by omega
    by_cases hn : n ≤ 300
    case neg =>
      have HZ := Lib.hid (HB.out HR.out hn)
      clear g1 g3
      go_wp2_with fail
      go_ret
      exact ⟨by rw [HZ.out]; try rfl, E0⟩
    have HZ := Lib.hid (HC.out HR.out hn)
    clear g1 g3
    go_wp2_with fail
    go_ret
    exact ⟨by rw [HZ.out]; try rfl, E0⟩
end Go.Proofs.YtkjchddidpjjmaaDoor
