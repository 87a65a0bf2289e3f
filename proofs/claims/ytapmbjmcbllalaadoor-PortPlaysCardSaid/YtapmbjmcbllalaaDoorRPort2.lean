/- The document's ports, on: Take. Conditions: as each lemma states them. -/
import Derived.Test.YtapmbjmcbllalaaDoorRPort
import Derived.Test.YtapmbjmcbllalaaDoorRef2
import Derived.Test.YtapmbjmcbllalaaDoorTake
import Derived.Deep.RegionHeld3
namespace Go.Proofs.YtapmbjmcbllalaaDoor
open Go.RowKit
/-- A place that is free in a block that is one's own; in a block of nobody. -/
def PS.mineAt (s : PS) (who : Six) (i : Nat) : Prop := s.tk i = false ∧ 0 < s.many (i / 8) ∧ s.own (i / 8) = who
def PS.freshAt (s : PS) (i : Nat) : Prop := s.tk i = false ∧ s.many (i / 8) = 0
theorem PS.mine_of {s : PS} {who : Six} {i : Nat} (h : s.mineAt who i) : s.mine who (i / 8) = true := by
  obtain ⟨h0, h1, h2⟩ := h
  have hle : s.many (i / 8) ≤ 8 := Pl.cnt_le _ _ _
  have h8 : s.many (i / 8) ≠ 8 := fun he => by
    have := Pl.cnt_full he (i % 8) (by omega)
    rw [show 8 * (i / 8) + i % 8 = i by omega, h0] at this
    cases this
  unfold PS.mine
  rw [h2, sixEq_self]
  simp
  omega
theorem PS.mine_low {s : PS} {who : Six} {k : Nat} (h : s.mine who k = true) : s.mineAt who (8 * k + s.low k) ∧ s.low k < 8 := by
  obtain ⟨h0, h1, h2⟩ := PS.mine_all h
  have hl := PS.low_lt h1
  have e : (8 * k + s.low k) / 8 = k := by omega
  refine ⟨⟨PA.low_free h1, ?_, ?_⟩, hl⟩
  · rw [e]; exact h0
  · rw [e]; exact h2
theorem PS.take_at0 {s : PS} {who : Six} {i : Nat} (ho : okS who = true) (hi : i < 8 * s.n) (h : s.mineAt who i) (hb : ∀ j, j < i → ¬ s.mineAt who j) : s.takeQ who = 0 ∧ PA.gets s who = i := by
  have hm := PS.mine_of h
  have hlt : ∀ k, k < i / 8 → s.mine who k = false := fun k hk => by
    cases hc : s.mine who k
    · rfl
    · obtain ⟨g, gl⟩ := PS.mine_low hc
      exact absurd g (hb _ (by omega))
  have hf : Pl.first (s.mine who) s.n = i / 8 := Pl.first_eq (by omega) hm hlt
  have hp : s.pick who = i / 8 := by unfold PS.pick; rw [hf, if_pos (by omega)]
  have hlow : s.low (i / 8) = i % 8 := by
    refine Pl.first_eq (p := fun j => !s.tk (8 * (i / 8) + j)) (by omega) ?_ (fun j hj => ?_)
    · show (!s.tk (8 * (i / 8) + i % 8)) = true
      rw [show 8 * (i / 8) + i % 8 = i by omega, h.1]
      rfl
    · show (!s.tk (8 * (i / 8) + j)) = false
      cases ht : s.tk (8 * (i / 8) + j)
      · have e : (8 * (i / 8) + j) / 8 = i / 8 := by omega
        exact absurd (⟨ht, by rw [e]; exact h.2.1, by rw [e]; exact h.2.2⟩ : s.mineAt who (8 * (i / 8) + j)) (hb _ (by omega))
      · rfl
  refine ⟨?_, ?_⟩
  · unfold PS.takeQ; rw [if_pos ho, hp, if_pos (by omega)]
  · unfold PA.gets; rw [hp, hlow]; omega
theorem PS.none_mine {s : PS} {who : Six} (h : ∀ j, j < 8 * s.n → ¬ s.mineAt who j) : ∀ k, k < s.n → s.mine who k = false := fun k hk => by
  cases hc : s.mine who k
  · rfl
  · obtain ⟨g, gl⟩ := PS.mine_low hc
    exact absurd g (h _ (by omega))
theorem PS.many_zero_at {s : PS} {k j : Nat} (h : s.many k = 0) (hj : j < 8) : s.freshAt (8 * k + j) := by
  have e : (8 * k + j) / 8 = k := by omega
  exact ⟨Pl.cnt_zero h j hj, by rw [e]; exact h⟩
theorem PS.take_at1 {s : PS} {who : Six} {i : Nat} (ho : okS who = true) (hno : ∀ j, j < 8 * s.n → ¬ s.mineAt who j) (hi : i < 8 * s.n) (h : s.freshAt i) (hb : ∀ j, j < i → ¬ s.freshAt j) : s.takeQ who = 0 ∧ PA.gets s who = i := by
  have h1 : Pl.first (s.mine who) s.n = s.n := Pl.first_none (PS.none_mine hno)
  have hz : i % 8 = 0 := by
    refine Decidable.byContradiction fun hne => ?_
    exact hb (8 * (i / 8) + 0) (by omega) (PS.many_zero_at h.2 (by omega))
  have hf : Pl.first s.fresh s.n = i / 8 := by
    refine Pl.first_eq (by omega) ?_ (fun k hk => ?_)
    · unfold PS.fresh; rw [h.2]; rfl
    · cases hc : s.fresh k
      · rfl
      · have hm : s.many k = 0 := by unfold PS.fresh at hc; simpa using hc
        exact absurd (PS.many_zero_at hm (show 0 < 8 by omega)) (hb _ (by omega))
  have hp : s.pick who = i / 8 := by unfold PS.pick; rw [h1, if_neg (by omega)]; exact hf
  have hlow : s.low (i / 8) = 0 := by
    refine Pl.first_eq (p := fun j => !s.tk (8 * (i / 8) + j)) (by omega) ?_ (fun j hj => by omega)
    show (!s.tk (8 * (i / 8) + 0)) = true
    rw [show 8 * (i / 8) + 0 = i by omega, h.1]
    rfl
  refine ⟨?_, ?_⟩
  · unfold PS.takeQ; rw [if_pos ho, hp, if_pos (by omega)]
  · unfold PA.gets; rw [hp, hlow]; omega
theorem PS.take_none {s : PS} {who : Six} (ho : okS who = true) (hno : ∀ j, j < 8 * s.n → ¬ s.mineAt who j) (hnf : ∀ j, j < 8 * s.n → ¬ s.freshAt j) : s.takeQ who = 3 ∧ s.takeN who = 0 ∧ s.take who = s := by
  refine PS.take_full ho (PS.none_mine hno) ?_
  have : Pl.first s.fresh s.n = s.n := Pl.first_none fun k hk => by
    cases hc : s.fresh k
    · rfl
    · have hm : s.many k = 0 := by unfold PS.fresh at hc; simpa using hc
      exact absurd (PS.many_zero_at hm (show 0 < 8 by omega)) (hnf _ (by omega))
  unfold PS.fr
  rw [this, if_neg (by omega)]
  omega
theorem Like.take {s : PS} {r : RS} (hL : Like s r) {who : Six} (hq : s.takeQ who = 0) : Like (s.take who) ((r.set (PA.gets s who) true).give (PA.gets s who) who) := by
  obtain ⟨hp, hm, ho⟩ := PA.pick_facts hq
  have hl := PS.low_lt hm
  have hd := PA.gets_div hl
  have ht : s.take who = (s.give (s.pick who) who).set (PA.gets s who) true := by unfold PS.take; rw [if_pos hq]; rfl
  rw [ht]
  generalize PA.gets s who = g at *
  refine ⟨hL.n, ?_, fun i hi hti => ?_⟩
  · show Pl.put r.tk g true = Pl.put s.tk g true
    rw [hL.tk]
  · have hti' : Pl.put s.tk g true i = true := hti
    show Pl.put r.wh g who i = Pl.put s.own (s.pick who) who (i / 8)
    by_cases he : i = g
    · subst he
      rw [Pl.put_same, hd, Pl.put_same]
    · rw [Pl.put_other _ _ he] at hti' ⊢
      rw [hL.wh i hi hti']
      by_cases hk : i / 8 = s.pick who
      · rw [hk, Pl.put_same]
        rcases ho with ho | ho
        · exact ho
        · have h5 : s.tk (8 * s.pick who + i % 8) = false := Pl.cnt_zero (m := 8) ho (i % 8) (by omega)
          rw [show 8 * s.pick who + i % 8 = i by omega, hti'] at h5
          cases h5
      · rw [Pl.put_other _ _ hk]
theorem PS.takeN_gets {s : PS} {who : Six} (hq : s.takeQ who = 0) : s.takeN who = 1024 + (PA.gets s who : Int) := by unfold PS.takeN PA.gets; rw [if_pos hq]; omega
end Go.Proofs.YtapmbjmcbllalaaDoor
