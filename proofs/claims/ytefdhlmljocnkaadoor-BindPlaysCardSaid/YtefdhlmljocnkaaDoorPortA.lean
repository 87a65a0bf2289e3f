/- What is known of ports that some have taken: each once, in blocks that are one's own. Conditions: as each lemma states them. -/
import Derived.Test.YtefdhlmljocnkaaDoorPort3
namespace Go.Proofs.YtefdhlmljocnkaaDoor
open Go.RowKit
/-- Who has which port, in the order of their taking. -/
structure PA (s : PS) (q : List (Nat × Six)) : Prop where
  mem : ∀ x ∈ q, x.1 < 8 * s.n ∧ s.tk x.1 = true ∧ s.own (x.1 / 8) = x.2
  nd : (q.map (·.1)).Nodup
  many : s.used s.n = q.length
namespace PA
theorem zero (n : Nat) : PA (PS.zero n) [] := ⟨fun _ h => (List.not_mem_nil h).elim, List.nodup_nil, Pl.cnt_none (t := fun _ => false) (fun _ _ => rfl)⟩
/-- The port that Take gives. -/
def gets (s : PS) (who : Six) : Nat := 8 * s.pick who + s.low (s.pick who)
theorem gets_div {s : PS} {who : Six} (h : s.low (s.pick who) < 8) : gets s who / 8 = s.pick who := by unfold gets; omega
theorem pick_facts {s : PS} {who : Six} (h : s.takeQ who = 0) : s.pick who < s.n ∧ s.many (s.pick who) < 8 ∧ (s.own (s.pick who) = who ∨ s.many (s.pick who) = 0) := by
  unfold PS.takeQ at h
  split at h
  · split at h
    · rename_i h1
      refine ⟨h1, ?_⟩
      unfold PS.pick at h1 ⊢
      split at h1
      · rename_i h2
        have h3 := PS.mine_all (Pl.first_at h2)
        rw [if_pos h2]
        exact ⟨h3.2.1, .inl h3.2.2⟩
      · rename_i h2
        have h3 : (s.many (Pl.first s.fresh s.n) == 0) = true := Pl.first_at h1
        have h4 : s.many (Pl.first s.fresh s.n) = 0 := by simpa using h3
        rw [if_neg h2]
        exact ⟨by rw [h4]; omega, .inr h4⟩
    · omega
  · omega
theorem low_free {s : PS} {k : Nat} (h : s.many k < 8) : s.tk (8 * k + s.low k) = false := by
  have h1 : (!s.tk (8 * k + s.low k)) = true := Pl.first_at (p := fun j => !s.tk (8 * k + j)) (m := 8) (PS.low_lt h)
  simpa using h1
theorem set_n (s : PS) (i : Nat) (b : Bool) : (s.set i b).n = s.n := rfl
theorem give_n (s : PS) (i : Nat) (b : Six) : (s.give i b).n = s.n := rfl
theorem give_used (s : PS) (k : Nat) (b : Six) (i : Nat) (c : Bool) (m : Nat) : ((s.give k b).set i c).used m = (s.set i c).used m := rfl
theorem used_set (s : PS) {i : Nat} (b : Bool) (hi : i < 8 * s.n) : (s.set i b).used s.n + (if s.tk i = true then 1 else 0) = s.used s.n + (if b = true then 1 else 0) :=
  Pl.cnt_put s.tk 0 i b (8 * s.n) (by omega) (by omega)
theorem take {s : PS} {q : List (Nat × Six)} (h : PA s q) {who : Six} (hq : s.takeQ who = 0) :
    PA (s.take who) (q ++ [(gets s who, who)]) ∧ s.takeN who = 1024 + (gets s who : Int) ∧ gets s who < 8 * s.n ∧ (s.take who).n = s.n := by
  obtain ⟨hp, hm, ho⟩ := pick_facts hq
  have hl := PS.low_lt hm
  have hf := low_free hm
  have hlt : gets s who < 8 * s.n := by unfold gets; omega
  have hd := gets_div hl
  have ht : s.take who = (s.give (s.pick who) who).set (gets s who) true := by unfold PS.take; rw [if_pos hq]; rfl
  have hN : s.takeN who = 1024 + (gets s who : Int) := by unfold PS.takeN gets; rw [if_pos hq]; omega
  have hne : ∀ x ∈ q, x.1 ≠ gets s who := fun x hx he => by
    have := (h.mem x hx).2.1
    rw [he] at this
    unfold gets at this
    rw [hf] at this
    cases this
  rw [ht]
  refine ⟨⟨fun x hx => ?_, ?_, ?_⟩, hN, hlt, rfl⟩
  · rcases List.mem_append.1 hx with hx | hx
    · obtain ⟨h1, h2, h3⟩ := h.mem x hx
      refine ⟨h1, ?_, ?_⟩
      · show Pl.upd s.tk (gets s who) true x.1 = true
        rw [Pl.upd_other _ _ (hne x hx)]
        exact h2
      · show Pl.upd s.own (s.pick who) who (x.1 / 8) = x.2
        by_cases hk : x.1 / 8 = s.pick who
        · rw [hk, Pl.upd_same]
          rcases ho with ho | ho
          · rw [← ho, ← hk]; exact h3
          · have h5 : s.tk (8 * s.pick who + x.1 % 8) = false := Pl.cnt_zero (m := 8) ho (x.1 % 8) (by omega)
            rw [show 8 * s.pick who + x.1 % 8 = x.1 by omega, h2] at h5
            cases h5
        · rw [Pl.upd_other _ _ hk]
          exact h3
    · have hx' : x = (gets s who, who) := List.mem_singleton.1 hx
      have e1 : x.1 = gets s who := congrArg Prod.fst hx'
      have e2 : x.2 = who := congrArg Prod.snd hx'
      rw [e1, e2]
      generalize gets s who = g at *
      refine ⟨hlt, ?_, ?_⟩
      · show Pl.upd s.tk g true g = true
        exact Pl.upd_same _ _ _
      · show Pl.upd s.own (s.pick who) who (g / 8) = who
        rw [hd]
        exact Pl.upd_same _ _ _
  · rw [List.map_append, List.map_cons, List.map_nil]
    refine List.nodup_append.2 ⟨h.nd, by simp, fun a ha b hb => ?_⟩
    obtain ⟨x, hx, rfl⟩ := List.mem_map.1 ha
    obtain rfl := List.mem_singleton.1 hb
    exact hne x hx
  · have hu := used_set s true hlt
    have hf' : s.tk (gets s who) = false := hf
    generalize gets s who = g at *
    rw [hf'] at hu
    have hu : (s.set g true).used s.n + 0 = s.used s.n + 1 := hu
    rw [set_n, give_n, give_used, List.length_append, List.length_singleton, ← h.many]
    omega
theorem back {s : PS} {l m : List (Nat × Six)} {x : Nat × Six} (h : PA s (l ++ x :: m)) : PA (s.back (1024 + (x.1 : Int))) (l ++ m) ∧ s.has (1024 + (x.1 : Int)) = true ∧ (s.back (1024 + (x.1 : Int))).n = s.n := by
  obtain ⟨h1, h2, h3⟩ := h.mem x (List.mem_append_right _ (List.mem_cons_self ..))
  have hh := PS.has_of h1 h2
  have hb : s.back (1024 + (x.1 : Int)) = s.set x.1 false := by unfold PS.back; rw [if_pos hh, show 1024 + (x.1 : Int) - 1024 = (x.1 : Int) by omega, Int.toNat_natCast]
  have hp : (l ++ x :: m).Perm (x :: (l ++ m)) := List.perm_middle
  have hnd : ((x :: (l ++ m)).map (·.1)).Nodup := (hp.map _).nodup_iff.1 h.nd
  rw [List.map_cons, List.nodup_cons] at hnd
  rw [hb]
  refine ⟨⟨fun y hy => ?_, hnd.2, ?_⟩, hh, rfl⟩
  · obtain ⟨g1, g2, g3⟩ := h.mem y (hp.symm.subset (List.mem_cons_of_mem _ hy))
    refine ⟨g1, ?_, g3⟩
    show Pl.upd s.tk x.1 false y.1 = true
    rw [Pl.upd_other _ _ (fun he => hnd.1 (by rw [← he]; exact List.mem_map_of_mem hy))]
    exact g2
  · have hu := used_set s false h1
    rw [h2, if_pos rfl, if_neg (by decide)] at hu
    have hlen := h.many
    rw [hp.length_eq, List.length_cons] at hlen
    rw [set_n]
    omega
/-- What the law asks of one port that is taken. -/
theorem one {s : PS} {q : List (Nat × Six)} (h : PA s q) {k : Nat} {x : Nat × Six} (hx : q[k]? = some x) : s.has (1024 + (x.1 : Int)) = true ∧ s.who (1024 + (x.1 : Int)) = x.2 ∧ x.1 < 8 * s.n := by
  obtain ⟨h1, h2, h3⟩ := h.mem x (List.mem_of_getElem? hx)
  have hh := PS.has_of h1 h2
  refine ⟨hh, ?_, h1⟩
  unfold PS.who
  rw [if_pos hh, show 1024 + (x.1 : Int) - 1024 = (x.1 : Int) by omega, Int.toNat_natCast]
  exact h3
/-- Of two ports that are taken. -/
theorem two {s : PS} {q : List (Nat × Six)} (h : PA s q) {j k : Nat} {x y : Nat × Six} (hjk : j < k) (hx : q[j]? = some x) (hy : q[k]? = some y) : x.1 ≠ y.1 ∧ (x.1 / 8 = y.1 / 8 → x.2 = y.2) := by
  obtain ⟨_, _, h3⟩ := h.mem x (List.mem_of_getElem? hx)
  obtain ⟨_, _, g3⟩ := h.mem y (List.mem_of_getElem? hy)
  refine ⟨fun he => ?_, fun he => by rw [← h3, ← g3, he]⟩
  have h1 : (q.map (·.1))[j]? = some x.1 := by rw [List.getElem?_map, hx]; rfl
  have h2 : (q.map (·.1))[k]? = some y.1 := by rw [List.getElem?_map, hy]; rfl
  have hj := (List.getElem?_eq_some_iff.1 h1).1
  have := (List.getElem?_inj (j := k) hj h.nd).1 (by rw [h1, h2, he])
  omega
end PA
end Go.Proofs.YtefdhlmljocnkaaDoor
