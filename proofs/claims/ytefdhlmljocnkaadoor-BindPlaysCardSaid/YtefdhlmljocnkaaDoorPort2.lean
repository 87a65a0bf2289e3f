/- The contracts of package port, on: at, Give, Owner, Free, New. Conditions: as each theorem states them. -/
import Derived.Test.YtefdhlmljocnkaaDoorPort
import Derived.Test.YtefdhlmljocnkaaDoorFrame
namespace Go.Proofs.YtefdhlmljocnkaaDoor
open Go.RowKit
/-- Is a port taken? -/
def PS.has (s : PS) (p : Int) : Bool := decide (1024 ≤ p) && (decide (p - 1024 < 8 * (s.n : Int)) && s.tk (p - 1024).toNat)
theorem PS.has_at {s : PS} {p : Int} (h : s.has p = true) : ∃ i : Nat, p = 1024 + (i : Int) ∧ i < 8 * s.n ∧ s.tk i = true := by
  unfold PS.has at h
  simp only [Bool.and_eq_true, decide_eq_true_eq] at h
  exact ⟨(p - 1024).toNat, by omega, by omega, h.2.2⟩
theorem PS.has_of {s : PS} {i : Nat} (h : i < 8 * s.n) (ht : s.tk i = true) : s.has (1024 + (i : Int)) = true := by
  unfold PS.has
  rw [show 1024 + (i : Int) - 1024 = (i : Int) by omega, Int.toNat_natCast, ht]
  simp
  omega
set_option maxRecDepth 100000 in
set_option maxHeartbeats 1000000 in
theorem at_yes (gP gB : Nat) (s : PS) (i : Nat) (w : World) (h : Prt w gP gB s) (hi : i < 8 * s.n) (ht : s.tk i = true) :
    Calls Tryd.prog 72 #[.pointer (some ⟨gP, 0, none⟩), .int .i64 (1024 + (i : Int))] w fun e w' => e = .returned (.tuple #[.pointer (some ⟨gB, i / 8 * 17, none⟩), .int .i64 ((i % 8 : Nat) : Int), .nilIface]) ∧ w' = w := by
  have hn := h.n1
  have c0 := h.c0
  have ct := h.tk (k := i / 8) (j := i % 8) (by omega) (by omega)
  rw [show 8 * (i / 8) + i % 8 = i by omega, ht] at ct
  obtain ⟨q, r, rfl, hr⟩ : ∃ q r, i = 8 * q + r ∧ r < 8 := ⟨i / 8, i % 8, by omega, by omega⟩
  have e1 : (8 * q + r) / 8 = q := by omega
  have e2 : (8 * q + r) % 8 = r := by omega
  rw [e1, e2] at ct ⊢
  have w1 : 1024 + ((8 * q + r : Nat) : Int) - 1024 = 8 * (q : Int) + (r : Int) := by omega
  have w2 : IntKind.i64.wrap (8 * (q : Int) + (r : Int)) = 8 * (q : Int) + (r : Int) := IntWalk.i64_in _ (by omega)
  have w3 : Int.tdiv (8 * (q : Int) + (r : Int)) 8 = (q : Int) := by rw [Int.tdiv_eq_ediv_of_nonneg (by omega)]; omega
  have w4 : Int.tmod (8 * (q : Int) + (r : Int)) 8 = (r : Int) := by rw [Int.tmod_eq_emod_of_nonneg (by omega)]; omega
  have w5 : IntKind.i64.wrap (q : Int) = (q : Int) := IntWalk.i64_in _ (by omega)
  have w6 : IntKind.i64.wrap (r : Int) = (r : Int) := IntWalk.i64_in _ (by omega)
  have w7 : IntKind.i64.wrap ((s.n : Int) * 8) = (s.n : Int) * 8 := IntWalk.i64_in _ (by omega)
  have d1 : decide (1024 + ((8 * q + r : Nat) : Int) < 1024) = false := decide_eq_false (by omega)
  have d2 : decide ((s.n : Int) * 8 ≤ 8 * (q : Int) + (r : Int)) = false := decide_eq_false (by omega)
  have hq : q < s.n := by omega
  have hq' : (q : Int) < (s.n : Int) := by omega
  obtain ⟨P, hP⟩ : ∃ P : Int, 1024 + ((8 * q + r : Nat) : Int) = P := ⟨_, rfl⟩
  rw [hP] at w1 d1 ⊢
  clear hP hi
  go_enter Tryd.func72, Tryd.ntmps72
  go_wp2
  go_returns
  exact ⟨rfl, rfl⟩
theorem PS.has_no {s : PS} {p : Int} (h : s.has p = false) : p < 1024 ∨ (1024 ≤ p ∧ 8 * (s.n : Int) ≤ p - 1024) ∨ ∃ i : Nat, p = 1024 + (i : Int) ∧ i < 8 * s.n ∧ s.tk i = false := by
  by_cases h0 : p < 1024
  · exact .inl h0
  · by_cases h1 : 8 * (s.n : Int) ≤ p - 1024
    · exact .inr (.inl ⟨by omega, h1⟩)
    · refine .inr (.inr ⟨(p - 1024).toNat, by omega, by omega, ?_⟩)
      unfold PS.has at h
      rw [decide_eq_true (show 1024 ≤ p by omega), decide_eq_true (show p - 1024 < 8 * (s.n : Int) by omega)] at h
      simpa using h
set_option maxRecDepth 100000 in
set_option maxHeartbeats 1000000 in
theorem at_no (gP gB : Nat) (s : PS) (p : Int) (w : World) (h : Prt w gP gB s) (hp : IsInt p) (ht : s.has p = false) :
    Calls Tryd.prog 72 #[.pointer (some ⟨gP, 0, none⟩), .int .i64 p] w fun e w' => e = .returned (.tuple #[.pointer none, .int .i64 0, errv 4]) ∧ w' = w := by
  have hn := h.n1
  have c0 := h.c0
  obtain ⟨hp0, hp1⟩ := hp
  rcases PS.has_no ht with h0 | ⟨h0, h1⟩ | ⟨i, rfl, hi, hf⟩
  · have d1 : decide (p < 1024) = true := decide_eq_true h0
    unfold errv
    clear ht
    go_enter Tryd.func72, Tryd.ntmps72
    go_wp2
    go_returns
    exact ⟨rfl, rfl⟩
  · have d1 : decide (p < 1024) = false := decide_eq_false (by omega)
    have w1 : IntKind.i64.wrap (p - 1024) = p - 1024 := IntWalk.i64_in _ (by omega)
    have w7 : IntKind.i64.wrap ((s.n : Int) * 8) = (s.n : Int) * 8 := IntWalk.i64_in _ (by omega)
    have d2 : decide ((s.n : Int) * 8 ≤ p - 1024) = true := decide_eq_true (by omega)
    unfold errv
    clear ht
    go_enter Tryd.func72, Tryd.ntmps72
    go_wp2
    go_returns
    exact ⟨rfl, rfl⟩
  · have ct := h.tk (k := i / 8) (j := i % 8) (by omega) (by omega)
    rw [show 8 * (i / 8) + i % 8 = i by omega, hf] at ct
    obtain ⟨q, r, rfl, hr⟩ : ∃ q r, i = 8 * q + r ∧ r < 8 := ⟨i / 8, i % 8, by omega, by omega⟩
    have e1 : (8 * q + r) / 8 = q := by omega
    have e2 : (8 * q + r) % 8 = r := by omega
    rw [e1, e2] at ct
    have w1 : 1024 + ((8 * q + r : Nat) : Int) - 1024 = 8 * (q : Int) + (r : Int) := by omega
    have w2 : IntKind.i64.wrap (8 * (q : Int) + (r : Int)) = 8 * (q : Int) + (r : Int) := IntWalk.i64_in _ (by omega)
    have w3 : Int.tdiv (8 * (q : Int) + (r : Int)) 8 = (q : Int) := by rw [Int.tdiv_eq_ediv_of_nonneg (by omega)]; omega
    have w4 : Int.tmod (8 * (q : Int) + (r : Int)) 8 = (r : Int) := by rw [Int.tmod_eq_emod_of_nonneg (by omega)]; omega
    have w5 : IntKind.i64.wrap (q : Int) = (q : Int) := IntWalk.i64_in _ (by omega)
    have w6 : IntKind.i64.wrap (r : Int) = (r : Int) := IntWalk.i64_in _ (by omega)
    have w7 : IntKind.i64.wrap ((s.n : Int) * 8) = (s.n : Int) * 8 := IntWalk.i64_in _ (by omega)
    have d1 : decide (1024 + ((8 * q + r : Nat) : Int) < 1024) = false := decide_eq_false (by omega)
    have d2 : decide ((s.n : Int) * 8 ≤ 8 * (q : Int) + (r : Int)) = false := decide_eq_false (by omega)
    have hq : q < s.n := by omega
    have hq' : (q : Int) < (s.n : Int) := by omega
    obtain ⟨P, hP⟩ : ∃ P : Int, 1024 + ((8 * q + r : Nat) : Int) = P := ⟨_, rfl⟩
    rw [hP] at w1 d1 ⊢
    unfold errv
    clear hP hi ht hf hp0 hp1
    go_enter Tryd.func72, Tryd.ntmps72
    go_wp2
    go_returns
    exact ⟨rfl, rfl⟩
/-- What Give tells, and what it leaves. -/
def PS.giveQ (s : PS) (p : Int) : Int := if s.has p = true then 0 else 4
def PS.back (s : PS) (p : Int) : PS := if s.has p = true then s.set (p - 1024).toNat false else s
set_option maxRecDepth 100000 in
set_option maxHeartbeats 1000000 in
theorem give_any (gP gB : Nat) (s : PS) (p : Int) (w : World) (h : Prt w gP gB s) (hp : IsInt p) :
    Calls Tryd.prog 54 #[.pointer (some ⟨gP, 0, none⟩), .int .i64 p] w fun e w' => e = .returned (erv (s.giveQ p)) ∧ Prt w' gP gB (s.back p) ∧ w.grownBy w' (some gB) := by
  cases ht : s.has p
  case false =>
    have e1 : s.giveQ p = 4 := by unfold PS.giveQ; rw [ht]; rfl
    have e2 : s.back p = s := by unfold PS.back; rw [ht]; rfl
    rw [e1, e2]
    have HA := Lib.hid (at_no gP gB s p w h hp ht)
    have HH := Lib.hid h
    clear e1 e2 h ht hp
    go_enter Tryd.func54, Tryd.ntmps54
    go_wp2_with fail
    refine HA.out.mono ?_
    rintro e w' ⟨rfl, rfl⟩
    unfold errv
    go_wp2_with fail
    go_returns
    exact ⟨rfl, HH.out, World.grownBy.refl _ _⟩
  case true =>
    obtain ⟨i, rfl, hi, hti⟩ := PS.has_at ht
    have e1 : s.giveQ (1024 + (i : Int)) = 0 := by unfold PS.giveQ; rw [ht]; rfl
    have e2 : s.back (1024 + (i : Int)) = s.set i false := by unfold PS.back; rw [if_pos ht, show 1024 + (i : Int) - 1024 = (i : Int) by omega, Int.toNat_natCast]
    rw [e1, e2, erv_zero]
    have HA := Lib.hid (at_yes gP gB s i w h hi hti)
    have HH := Lib.hid h
    obtain ⟨q, r, rfl, hr⟩ : ∃ q r, i = 8 * q + r ∧ r < 8 := ⟨i / 8, i % 8, by omega, by omega⟩
    have d1 : (8 * q + r) / 8 = q := by omega
    have d2 : (8 * q + r) % 8 = r := by omega
    rw [d1, d2] at HA
    have hq : q < s.n := by omega
    have hM := s.many_set (k := q) false hr
    rw [hti, if_pos rfl, if_neg (by decide)] at hM
    have HM := Lib.hid hM
    have ct := h.tk hq hr
    have cm := h.many hq
    have hml := Pl.cnt_le s.tk (8 * q) 8
    have hml' : s.many q ≤ 8 := hml
    have f1 := h.row.free (q * 17 + 8 + r)
    have f2 := h.row.free (q * 17 + 16)
    have wm : IntKind.i64.wrap ((s.many q : Int) - 1) = (s.many q : Int) - 1 := IntWalk.i64_in _ (by omega)
    clear d1 d2 e1 e2 h ht hp hi hti hM hml
    go_enter Tryd.func54, Tryd.ntmps54
    go_wp2_with fail
    refine HA.out.mono ?_
    rintro e w' ⟨rfl, rfl⟩
    go_wp2_with fail
    go_returns
    have hg : (s.set (8 * q + r) false).many q + 1 = s.many q := by have := HM.out; omega
    exact ⟨rfl, HH.out.put hq hr false _ (by omega), only_set (only_set (World.grownBy.refl _ _) _ _) _ _⟩
/-- Whose a port is. -/
def six0 : Six := ⟨0, 0, 0, 0, 0, 0, 0, 0⟩
def PS.who (s : PS) (p : Int) : Six := if s.has p = true then s.own ((p - 1024).toNat / 8) else six0
end Go.Proofs.YtefdhlmljocnkaaDoor
