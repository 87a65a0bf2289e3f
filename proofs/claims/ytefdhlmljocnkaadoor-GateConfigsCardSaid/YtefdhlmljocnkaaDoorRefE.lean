/- The document's answers on fours in sixes: Long, PrefixFault, IntoOf, OutOf. Conditions: as each theorem states them. -/
import Derived.Test.YtefdhlmljocnkaaDoorEmb5
import Derived.Test.YtefdhlmljocnkaaDoorRef4
import Derived.Test.YtefdhlmljocnkaaDoorRef6s
namespace Go.Proofs.YtefdhlmljocnkaaDoor
open Go.RowKit
theorem rlong_any (n : Int) (w : World) : Calls Tryd.prog 64 #[.int .i64 n] w fun e w' => e = .returned (.bool (Pl.longB n)) ∧ w = w' := by
  cases h : Pl.longB n
  case true =>
    have h' := Pl.longB_yes h
    clear h
    rcases h' with rfl | rfl | rfl | rfl | rfl | rfl
    all_goals
      go_enter Tryd.func64, Tryd.ntmps64
      go_wp2
      go_ret
      exact ⟨rfl, rfl⟩
  case false =>
    obtain ⟨h1, h2, h3, h4, h5, h6⟩ := Pl.longB_no h
    have e1 : (n == 32) = false := by simpa using h1
    have e2 : (n == 40) = false := by simpa using h2
    have e3 : (n == 48) = false := by simpa using h3
    have e4 : (n == 56) = false := by simpa using h4
    have e5 : (n == 64) = false := by simpa using h5
    have e6 : (n == 96) = false := by simpa using h6
    clear h h1 h2 h3 h4 h5 h6
    go_enter Tryd.func64, Tryd.ntmps64
    go_wp2
    go_ret
    exact ⟨rfl, rfl⟩
theorem sixE_yes {s : Six} (h : okS s = true) : sixE s = 0 := by unfold sixE; rw [if_pos (show words s.l = true from h)]
theorem sixE_no {s : Six} (h : okS s = false) : sixE s = 1 := by unfold sixE; rw [if_neg (by rw [show words s.l = false from h]; decide)]

set_option maxRecDepth 100000 in
set_option maxHeartbeats 2000000 in
theorem rpfx_any (s : Six) (n : Int) (w : World) :
    Calls Tryd.prog 37 #[s.v, .int .i64 n] w fun e w' => e = .returned (.int .i64 (Pl.pfxErr s n)) ∧ Ext w w' := by
  have K0 := Blk.new w 23 s.cells
  have E0 : Ext w (w.alloc (.cells s.cells 23)) := (Ext.refl w).alloc _
  have l0 := K0.six0
  by_cases hs : okS s = true
  case neg =>
    have HS := Lib.hid (sixE_no (s := s) (by simpa using hs))
    have HE := Lib.hid (show Pl.pfxErr s n = 1 by unfold Pl.pfxErr; rw [if_neg hs])
    clear hs
    go_enter Tryd.func37, Tryd.ntmps37
    go_wp2_with ((apply load_by rfl _ _ rfl _ rfl); (focus (with_reducible assumption)))
    refine (sixFault_any s _).mono ?_
    rintro e W1 ⟨rfl, q1⟩
    rw [HS.out]
    have E1 := E0.trans q1
    clear l0
    go_wp2_with fail
    go_ret
    exact ⟨by rw [HE.out]; rfl, E1⟩
  have HS := Lib.hid (sixE_yes hs)
  have HO := Lib.hid (show s.Ok from hs)
  have HB := Lib.hid (Six.isB hs)
  cases hl : Pl.longB n
  case false =>
    have HE := Lib.hid (show Pl.pfxErr s n = 1 by unfold Pl.pfxErr; rw [if_pos hs, hl]; rfl)
    have HL := Lib.hid hl
    clear hs hl
    go_enter Tryd.func37, Tryd.ntmps37
    go_wp2_with ((apply load_by rfl _ _ rfl _ rfl); (focus (with_reducible assumption)))
    refine (sixFault_any s _).mono ?_
    rintro e W1 ⟨rfl, q1⟩
    rw [HS.out]
    have E1 := E0.trans q1
    clear l0
    go_wp2_with fail
    refine (rlong_any n _).mono ?_
    rintro e w' ⟨rfl, rfl⟩
    rw [HL.out]
    go_wp2_with fail
    go_ret
    exact ⟨by rw [HE.out]; rfl, E1⟩
  have hn := Pl.longB_yes hl
  have HL := Lib.hid hl
  have HPE := Lib.hid (show Pl.pfxErr s n = if Pl.clean (Pl.two s.l) n then 0 else 2 by unfold Pl.pfxErr; rw [if_pos hs, if_pos hl])
  have hn0 : 0 ≤ n ∧ n ≤ 96 := by omega
  obtain ⟨n0, n1⟩ := hn0
  clear hs hl hn
  go_enter Tryd.func37, Tryd.ntmps37
  go_wp2_with ((apply load_by rfl _ _ rfl _ rfl); (focus (with_reducible assumption)))
  refine (sixFault_any s _).mono ?_
  rintro e W1 ⟨rfl, q1⟩
  rw [HS.out]
  have E1 := E0.trans q1
  have K1 := K0.ext q1
  have l1 := K1.six0
  clear l0 E0 K0 q1
  go_wp2_with fail
  refine (rlong_any n _).mono ?_
  rintro e w' ⟨rfl, rfl⟩
  rw [HL.out]
  go_wp2_with ((apply load_by rfl _ _ rfl _ rfl); (focus (with_reducible assumption)))
  refine (bytesOf_any s _ HO.out).mono ?_
  rintro e W2 ⟨v2, rfl, o2, q2⟩
  have E2 := E1.trans q2
  obtain ⟨g2, n2, c2, rfl, hn2, hc2, hg2, hg2', hcell2, _⟩ := o2.shape (by rw [Pl.two_length]; show 0 < 2 * 8; decide)
  have hl16 : (Pl.two s.l).length = 16 := by rw [Pl.two_length]; rfl
  obtain rfl : 16 = n2 := hl16.symm.trans hn2
  have HC := Lib.hid hcell2
  have HI := Lib.hid HB.out
  generalize Pl.two s.l = b at *
  clear l1 K1 E1 q2 o2 hcell2 HB
  go_wp2_with fail
  go_loop [8] (fun i => ∃ k : Nat, k ≤ 16 ∧ i = .int .i64 k ∧ ∀ j : Nat, j < k → (j = 8 ∨ n ≤ 8 * (j : Int)) → b.getD j 0 = 0) (fun i => 16 - (intOf i).toNat)
  case atStart => exact ⟨0, Nat.zero_le _, rfl, fun j hj => absurd hj (Nat.not_lt_zero _)⟩
  case round =>
    obtain ⟨k, hk, rfl, hF⟩ := hrel
    have HF := Lib.hid hF
    clear hF
    by_cases hlt : k < 16
    case neg =>
      obtain rfl : k = 16 := by omega
      go_wp2_with fail
      go_ret
      exact ⟨by rw [HPE.out, if_pos (show Pl.clean b n from HF.out)]; rfl, E2⟩
    case pos =>
      have hkl : (k : Int) < 16 := by omega
      have ck := HC.out k hlt
      have hbk : k = 8 ∨ n ≤ 8 * (k : Int) ∨ ¬ (k = 8 ∨ n ≤ 8 * (k : Int)) := by omega
      have ew : IntKind.i64.wrap (8 * (k : Int)) = 8 * (k : Int) := IntWalk.i64_in _ (by omega)
      have hy := fun h0 : b.getD k 0 = 0 => (fun (j : Nat) (hj : j < k + 1) (hc : j = 8 ∨ n ≤ 8 * (j : Int)) => (show b.getD j 0 = 0 from by
        rcases Nat.lt_succ_iff_lt_or_eq.1 hj with h | rfl
        · exact HF.out j h hc
        · exact h0))
      have HY := Lib.hid hy
      have HZ := Lib.hid (fun (hc : k = 8 ∨ n ≤ 8 * (k : Int)) (h0 : b.getD k 0 ≠ 0) => (show Pl.pfxErr s n = 2 from by
        rw [HPE.out, if_neg (show ¬ Pl.clean b n from fun h => h0 (h k hlt hc))]))
      have HN := Lib.hid (fun (hc : ¬ (k = 8 ∨ n ≤ 8 * (k : Int))) => (fun (j : Nat) (hj : j < k + 1) (hcj : j = 8 ∨ n ≤ 8 * (j : Int)) => (show b.getD j 0 = 0 from by
        rcases Nat.lt_succ_iff_lt_or_eq.1 hj with h | rfl
        · exact HF.out j h hcj
        · exact absurd hcj hc)))
      generalize b.getD k 0 = x at *
      clear hy
      by_cases h8 : k = 8
      case' pos => have hk8 : ((k : Int) == 8) = true := by simp; omega
      case' neg => have hk8 : ((k : Int) == 8) = false := by simp; omega
      case' neg => by_cases hnk : n ≤ 8 * (k : Int)
      all_goals
        by_cases hx : x = 0
        case' pos => have hxb : (x != 0) = false := by simpa using hx
        case' neg => have hxb : (x != 0) = true := by simpa using hx
      all_goals
        have HX := Lib.hid hx
        have H8 := Lib.hid h8
        clear hx h8 hbk
        go_wp2_with fail
        first
          | (go_ret; exact ⟨by rw [HZ.out (by first | exact .inl H8.out | exact .inr hnk) HX.out]; rfl, E2⟩)
          | (go_round
             case rel => exact ⟨k + 1, by omega, by go_num, by first | exact HY.out HX.out | exact HN.out (by have := H8.out; omega)⟩
             case measure => simp [intOf] <;> omega)

namespace Pl
/-- What OutOf has done when it comes to byte i. -/
def OutAt (b : List Int) (m k i : Nat) (v : Int) : Prop := v = val b ((spots m).take k) ∧ k ≤ 4 ∧ i ≤ 16 ∧
  ((k < 4 ∧ (i = cur m k ∨ (cur m k = 8 ∧ i = 9))) ∨ (k = 4 ∧ spot m 3 < i ∧ ∀ j : Nat, spot m 3 < j → j < i → j ≠ 8 → b.getD j 0 = 0))
end Pl
end Go.Proofs.YtefdhlmljocnkaaDoor
