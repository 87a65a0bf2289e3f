/- Plain laws of the choice of a server (no program in sight): who is best of a list, and that it stays so in another order, or without one that is not it. Conditions: as each lemma states them. -/
import Derived.KernelRfl
namespace Go.Proofs.YtefdhlmljocnkaaDoor.Pl

/-- A server. -/
structure Back where
  id : Int
  addr : Int
  door : Int
  weight : Int
  up : Bool
  drain : Bool

/-- May it be picked? -/
def Elig (b : Back) : Prop := b.up = true ∧ b.drain = false ∧ b.weight ≠ 0
instance (b : Back) : Decidable (Elig b) := by unfold Elig; infer_instance
/-- Is b better than c? -/
def Beats (sc : Back → Int) (c b : Back) : Prop := sc c < sc b ∨ (sc c = sc b ∧ b.id < c.id)
instance (sc : Back → Int) (c b : Back) : Decidable (Beats sc c b) := by unfold Beats; infer_instance
def step (sc : Back → Int) (cur : Option Back) (b : Back) : Option Back :=
  if Elig b then (match cur with | none => some b | some c => if Beats sc c b then some b else some c) else cur
def best (sc : Back → Int) (l : List Back) : Option Back := l.foldl (step sc) none

theorem snoc_ind {α : Type} {P : List α → Prop} (h0 : P []) (hs : ∀ l a, P l → P (l ++ [a])) (l : List α) : P l := by
  rw [← List.reverse_reverse l]
  generalize l.reverse = m
  induction m with
  | nil => exact h0
  | cons a r ih => rw [List.reverse_cons]; exact hs _ _ ih

theorem best_snoc (sc : Back → Int) (l : List Back) (b : Back) : best sc (l ++ [b]) = step sc (best sc l) b := by simp [best]

theorem best_spec (sc : Back → Int) (l : List Back) : (best sc l = none ∧ ∀ y ∈ l, ¬ Elig y) ∨ ∃ x, x ∈ l ∧ best sc l = some x ∧ Elig x ∧ ∀ y ∈ l, Elig y → ¬ Beats sc x y := by
  refine snoc_ind (P := fun l => (best sc l = none ∧ ∀ y ∈ l, ¬ Elig y) ∨ ∃ x, x ∈ l ∧ best sc l = some x ∧ Elig x ∧ ∀ y ∈ l, Elig y → ¬ Beats sc x y) (.inl ⟨rfl, fun _ h => by cases h⟩) (fun l b ih => ?_) l
  · rw [best_snoc]
    unfold step
    by_cases he : Elig b
    · rw [if_pos he]
      rcases ih with ⟨h0, hn⟩ | ⟨x, hx, h0, hex, hbx⟩
      · rw [h0]
        refine .inr ⟨b, by simp, rfl, he, fun y hy hey => ?_⟩
        rcases List.mem_append.1 hy with hy | hy
        · exact absurd hey (hn y hy)
        · rw [List.mem_singleton.1 hy]
          unfold Beats
          omega
      · rw [h0]
        by_cases hb : Beats sc x b
        · simp only [if_pos hb]
          refine .inr ⟨b, by simp, rfl, he, fun y hy hey => ?_⟩
          rcases List.mem_append.1 hy with hy | hy
          · have := hbx y hy hey
            unfold Beats at *
            omega
          · rw [List.mem_singleton.1 hy]
            unfold Beats
            omega
        · simp only [if_neg hb]
          refine .inr ⟨x, by simp [hx], rfl, hex, fun y hy hey => ?_⟩
          rcases List.mem_append.1 hy with hy | hy
          · exact hbx y hy hey
          · rw [List.mem_singleton.1 hy]; exact hb
    · rw [if_neg he]
      rcases ih with ⟨h0, hn⟩ | ⟨x, hx, h0, hex, hbx⟩
      · refine .inl ⟨h0, fun y hy => ?_⟩
        rcases List.mem_append.1 hy with hy | hy
        · exact hn y hy
        · rw [List.mem_singleton.1 hy]; exact he
      · refine .inr ⟨x, by simp [hx], h0, hex, fun y hy hey => ?_⟩
        rcases List.mem_append.1 hy with hy | hy
        · exact hbx y hy hey
        · rw [List.mem_singleton.1 hy] at hey; exact absurd hey he

/-- No two have one ID. -/
def Apart (l : List Back) : Prop := l.Pairwise fun a b => a.id ≠ b.id

theorem Apart.eq {l : List Back} (h : Apart l) : ∀ {x y : Back}, x ∈ l → y ∈ l → x.id = y.id → x = y := by
  induction l with
  | nil => intro x y hx; cases hx
  | cons z r ih =>
    intro x y hx hy hxy
    rw [Apart, List.pairwise_cons] at h
    rcases List.mem_cons.1 hx with hx1 | hx1
    · rcases List.mem_cons.1 hy with hy1 | hy1
      · rw [hx1, hy1]
      · rw [hx1] at hxy; exact absurd hxy (h.1 y hy1)
    · rcases List.mem_cons.1 hy with hy1 | hy1
      · rw [hy1] at hxy; exact absurd hxy.symm (h.1 x hx1)
      · exact ih h.2 hx1 hy1 hxy

/-- Of fewer, or in another order, it is the same. -/
theorem best_sub {sc : Back → Int} {l m : List Back} {x : Back} (ha : Apart l) (hl : best sc l = some x) (hm : ∀ y ∈ m, y ∈ l) (hx : x ∈ m) : best sc m = some x := by
  rcases best_spec sc l with ⟨h0, _⟩ | ⟨x1, hx1, h1, he1, hb1⟩
  · rw [h0] at hl; cases hl
  · obtain rfl : x1 = x := by rw [h1] at hl; exact Option.some.inj hl
    rcases best_spec sc m with ⟨_, hn⟩ | ⟨x2, hx2, h2, he2, hb2⟩
    · exact absurd he1 (hn _ hx)
    · rw [h2]
      have q1 := hb1 x2 (hm _ hx2) he2
      have q2 := hb2 x1 hx he1
      have : x1.id = x2.id := by unfold Beats at *; omega
      rw [ha.eq (hm _ hx2) hx1 this.symm]
theorem best_mem {sc : Back → Int} {l : List Back} {x : Back} (hl : best sc l = some x) : x ∈ l ∧ Elig x := by
  rcases best_spec sc l with ⟨h0, _⟩ | ⟨x1, hx1, h1, he1, _⟩
  · rw [h0] at hl; cases hl
  · obtain rfl : x1 = x := by rw [h1] at hl; exact Option.some.inj hl
    exact ⟨hx1, he1⟩

theorem Apart.reverse {l : List Back} (h : Apart l) : Apart l.reverse := by
  unfold Apart at *
  rw [List.pairwise_reverse]
  exact h.imp fun hab => fun e => hab e.symm
theorem Apart.sub {l m : List Back} (h : Apart l) (hs : m.Sublist l) : Apart m := List.Pairwise.sublist hs h

/-- All but one. -/
def less (l : List Back) (k : Nat) : List Back := l.take k ++ l.drop (k + 1)
theorem less_sub (l : List Back) (k : Nat) : (less l k).Sublist l := by
  have h : (l.take k ++ l.drop (k + 1)).Sublist (l.take k ++ l.drop k) := List.Sublist.append (List.Sublist.refl _) (List.drop_sublist_drop_left l (Nat.le_succ k))
  rw [List.take_append_drop] at h
  exact h
theorem less_mem {l : List Back} (k : Nat) {x z : Back} (hk : l[k]? = some z) (hx : x ∈ l) (hne : x ≠ z) : x ∈ less l k := by
  obtain ⟨j, hj, rfl⟩ := List.mem_iff_getElem.1 hx
  obtain ⟨hk', rfl⟩ := List.getElem?_eq_some_iff.1 hk
  unfold less
  rcases Nat.lt_trichotomy j k with h | h | h
  · exact List.mem_append_left _ (List.mem_take_iff_getElem.2 ⟨j, by omega, rfl⟩)
  · subst h; exact absurd rfl hne
  · refine List.mem_append_right _ (List.mem_drop_iff_getElem.2 ⟨j - (k + 1), by omega, ?_⟩)
    congr 1
    omega
/-- Who is taken out has no other of its ID left. -/
theorem less_not {l : List Back} (ha : Apart l) (k : Nat) {z y : Back} (hk : l[k]? = some z) (hy : y ∈ less l k) : y.id ≠ z.id := by
  obtain ⟨hk', rfl⟩ := List.getElem?_eq_some_iff.1 hk
  unfold Apart at ha
  rw [List.pairwise_iff_getElem] at ha
  unfold less at hy
  rcases List.mem_append.1 hy with h | h
  · obtain ⟨j, hj, rfl⟩ := List.mem_take_iff_getElem.1 h
    exact ha j k (by omega) hk' (by omega)
  · obtain ⟨j, hj, rfl⟩ := List.mem_drop_iff_getElem.1 h
    exact fun e => ha k (k + 1 + j) hk' (by omega) (by omega) e.symm
end Go.Proofs.YtefdhlmljocnkaaDoor.Pl
