/- package embed: long, Check, spots. Conditions: as each theorem states them. -/
import Derived.Test.YtefdhlmljocnkaaDoorOf
import Derived.Test.YtefdhlmljocnkaaDoorErv
import Derived.Test.YtefdhlmljocnkaaDoorSixS
namespace Go.Proofs.YtefdhlmljocnkaaDoor
open Go.RowKit
namespace Pl
def longB (n : Int) : Bool := n == 32 || n == 40 || n == 48 || n == 56 || n == 64 || n == 96
theorem longB_yes {n : Int} (h : longB n = true) : n = 32 ∨ n = 40 ∨ n = 48 ∨ n = 56 ∨ n = 64 ∨ n = 96 := by
  unfold longB at h
  simp only [Bool.or_eq_true, beq_iff_eq] at h
  omega
theorem longB_no {n : Int} (h : longB n = false) : n ≠ 32 ∧ n ≠ 40 ∧ n ≠ 48 ∧ n ≠ 56 ∧ n ≠ 64 ∧ n ≠ 96 := by
  unfold longB at h
  simp only [Bool.or_eq_false_iff, beq_eq_false_iff_ne] at h
  omega
/-- Are the bytes that a prefix of n bits has no say in noughts? -/
def clean (b : List Int) (n : Int) : Prop := ∀ i : Nat, i < 16 → (i = 8 ∨ n ≤ 8 * (i : Int)) → b.getD i 0 = 0
instance (b : List Int) (n : Int) : Decidable (clean b n) := by unfold clean; infer_instance
/-- What is wrong with a prefix. -/
def pfxErr (s : Six) (n : Int) : Int := if okS s = true then (if longB n = true then (if clean (two s.l) n then 0 else 2) else 1) else 1
end Pl
theorem long_any (n : Int) (w : World) : Calls Tryd.prog 67 #[.int .i64 n] w fun e w' => e = .returned (.bool (Pl.longB n)) ∧ w = w' := by
  cases h : Pl.longB n
  case true =>
    have h' := Pl.longB_yes h
    clear h
    rcases h' with rfl | rfl | rfl | rfl | rfl | rfl
    all_goals
      go_enter Tryd.func67, Tryd.ntmps67
      go_wp2
      go_ret
      exact ⟨rfl, rfl⟩
  case false =>
    obtain ⟨h0, h1, h2, h3, h4, h5⟩ := Pl.longB_no h
    clear h
    go_enter Tryd.func67, Tryd.ntmps67
    go_wp2
    go_ret
    exact ⟨rfl, rfl⟩
set_option maxHeartbeats 1000000 in
theorem echeck_any (s : Six) (n : Int) (w : World) :
    Calls Tryd.prog 43 #[s.v, .int .i64 n] w fun e w' => e = .returned (erv (Pl.pfxErr s n)) ∧ Ext w w' := by
  have K0 := Blk.new w 23 s.cells
  have E0 : Ext w (w.alloc (.cells s.cells 23)) := (Ext.refl w).alloc _
  have l0 := K0.six0
  by_cases hs : okS s = true
  case neg =>
    have HS := Lib.hid (show okS s = false by simpa using hs)
    have HE := Lib.hid (show Pl.pfxErr s n = 1 by unfold Pl.pfxErr; rw [if_neg hs])
    clear hs
    go_enter Tryd.func43, Tryd.ntmps43
    go_wp2_with ((apply load_by rfl _ _ rfl _ rfl); (focus (with_reducible assumption)))
    refine (check6_no s _ HS.out).mono ?_
    rintro e W1 ⟨rfl, q1⟩
    have E1 := E0.trans q1
    clear l0
    unfold errv
    go_wp2_with fail
    go_ret
    exact ⟨by rw [HE.out]; rfl, E1⟩
  have HS := Lib.hid hs
  cases hl : Pl.longB n
  case false =>
    have HE := Lib.hid (show Pl.pfxErr s n = 1 by unfold Pl.pfxErr; rw [if_pos hs, hl]; rfl)
    have HL := Lib.hid hl
    clear hs hl
    go_enter Tryd.func43, Tryd.ntmps43
    go_wp2_with ((apply load_by rfl _ _ rfl _ rfl); (focus (with_reducible assumption)))
    refine (check6_yes s _ HS.out).mono ?_
    rintro e W1 ⟨rfl, q1⟩
    have E1 := E0.trans q1
    clear l0
    go_wp2_with fail
    refine (long_any n _).mono ?_
    rintro e w' ⟨rfl, rfl⟩
    rw [HL.out]
    go_wp2_with fail
    go_ret
    exact ⟨by rw [HE.out]; rfl, E1⟩
  have hn := Pl.longB_yes hl
  have HL := Lib.hid hl
  have hpe : Pl.pfxErr s n = if Pl.clean (Pl.two s.l) n then 0 else 2 := by unfold Pl.pfxErr; rw [if_pos hs, if_pos hl]
  have HPE := Lib.hid hpe
  clear hs hl hpe
  obtain ⟨m, hm4, hm8, hmn⟩ : ∃ m : Nat, 4 ≤ m ∧ m ≤ 12 ∧ n = 8 * (m : Int) := ⟨(n / 8).toNat, by omega, by omega, by omega⟩
  subst hmn
  have hdiv : IntKind.i64.wrap (Int.tdiv (8 * (m : Int)) 8) = (m : Int) := by
    rw [Int.mul_comm, Int.mul_tdiv_cancel _ (by decide)]
    exact IntWalk.i64_in _ (by omega)
  have hdiv' : Int.tdiv (8 * (m : Int)) 8 = (m : Int) := by rw [Int.mul_comm, Int.mul_tdiv_cancel _ (by decide)]
  go_enter Tryd.func43, Tryd.ntmps43
  go_wp2_with ((apply load_by rfl _ _ rfl _ rfl); (focus (with_reducible assumption)))
  refine (check6_yes s _ HS.out).mono ?_
  rintro e W1 ⟨rfl, q1⟩
  have E1 := E0.trans q1
  have K1 := K0.ext q1
  have l1 := K1.six0
  clear l0 E0 K0 q1
  go_wp2_with fail
  refine (long_any _ _).mono ?_
  rintro e w' ⟨rfl, rfl⟩
  rw [HL.out]
  go_wp2_with ((apply load_by rfl _ _ rfl _ rfl); (focus (with_reducible assumption)))
  refine (raw6_any s _ HS.out).mono ?_
  rintro e W2 ⟨v2, rfl, o2, q2⟩
  obtain ⟨a2, n2, c2, rfl, _, r2⟩ := o2.read
  obtain rfl : 16 = n2 := r2.len
  have E2 := E1.trans q2
  clear l1 E1 K1 q2 o2
  go_wp2_with fail
  obtain ⟨b, off, rfl, hbl, hc⟩ := r2.at (by decide)
  have hlx : (Pl.two s.l).length = 16 := r2.len
  clear r2 hdiv hdiv'
  generalize Pl.two s.l = xs at *
  have HC := Lib.hid hc
  have HE2 := Lib.hid E2
  clear hc E2
  go_loopw [7] (fun i wr => ∃ k : Nat, i = .int .i64 k ∧ (m ≤ k ∧ k ≤ 16) ∧ W2 = wr ∧ ∀ j, m ≤ j → j < k → xs.getD j 0 = 0) (fun i _ => 16 - (intOf i).toNat)
  case atStart => exact ⟨m, rfl, ⟨Nat.le_refl _, by omega⟩, rfl, fun j h1 h2 => by omega⟩
  case round =>
    obtain ⟨k, rfl, ⟨hk0, hk1⟩, rfl, hz⟩ := hrel
    have HZ := Lib.hid hz
    clear hz
    by_cases hlt : k < 16
    · have c0 := HC.out k hlt
      by_cases hx : xs.getD k 0 = 0
      · have HX := Lib.hid hx
        rw [hx] at c0
        clear hx
        have hk16 : (k : Int) < 16 := by omega
        go_wp2_with fail
        go_roundw
        case rel =>
          refine ⟨k + 1, by go_num, ⟨by omega, by omega⟩, trivial, fun j h1 h2 => ?_⟩
          by_cases hjk : j = k
          · subst hjk; exact HX.out
          · exact HZ.out j h1 (by omega)
        case measure => simp [intOf]; omega
      · have HX := Lib.hid hx
        have hE : Pl.pfxErr s (8 * (m : Int)) = 2 := by
          have hnc : ¬ Pl.clean xs (8 * (m : Int)) := fun h => hx (h k hlt (.inr (by omega)))
          rw [HPE.out, if_neg hnc]
        have HE := Lib.hid hE
        generalize xs.getD k 0 = x at *
        have hk16 : (k : Int) < 16 := by omega
        have hx' : (x != 0) = true := by simpa using hx
        clear hx hE
        go_wp2_with fail
        go_ret
        exact ⟨by rw [HE.out]; rfl, HE2.out⟩
    · obtain rfl : k = 16 := by omega
      have c8 := HC.out 8 (by omega)
      by_cases hx : xs.getD 8 0 = 0
      · have hE : Pl.pfxErr s (8 * (m : Int)) = 0 := by
          have hcl : Pl.clean xs (8 * (m : Int)) := fun i hi h => by
            rcases h with rfl | h
            · exact hx
            · exact HZ.out i (by omega) (by omega)
          rw [HPE.out, if_pos hcl]
        have HE := Lib.hid hE
        rw [hx] at c8
        clear hx hE
        go_wp2_with fail
        go_ret
        exact ⟨by rw [HE.out]; rfl, HE2.out⟩
      · have hE : Pl.pfxErr s (8 * (m : Int)) = 2 := by
          have hnc : ¬ Pl.clean xs (8 * (m : Int)) := fun h => hx (h 8 (by omega) (.inl rfl))
          rw [HPE.out, if_neg hnc]
        have HE := Lib.hid hE
        generalize xs.getD 8 0 = x at *
        have hx' : (x != 0) = true := by simpa using hx
        clear hx hE
        go_wp2_with fail
        go_ret
        exact ⟨by rw [HE.out]; rfl, HE2.out⟩
end Go.Proofs.YtefdhlmljocnkaaDoor
