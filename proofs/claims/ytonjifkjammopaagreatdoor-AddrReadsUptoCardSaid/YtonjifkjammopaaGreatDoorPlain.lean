/- Plain arithmetic of sums of bytes (no program in sight): what a fold is, what a sum of parts is. Conditions: as each lemma states them. -/
import Derived.KernelRfl
namespace Go.Proofs.YtonjifkjammopaaGreatDoor.Pl

/-- What a number comes to when its carries are added in. -/
def fold (n : Int) : Int := if n = 0 then 0 else (n - 1) % 65535 + 1

theorem fold_lo (n : Int) : 0 ≤ fold n := by unfold fold; split <;> omega
theorem fold_hi (n : Int) : fold n ≤ 65535 := by unfold fold; split <;> omega
theorem fold_zero : fold 0 = 0 := rfl
theorem fold_pos {n : Int} (h : n ≠ 0) : 1 ≤ fold n := by unfold fold; rw [if_neg h]; omega
theorem fold_small {n : Int} (h0 : 0 ≤ n) (h : n ≤ 65535) : fold n = n := by unfold fold; split <;> omega
theorem fold_step {n : Int} (h : 65535 < n) : fold (n % 65536 + n / 65536) = fold n := by
  unfold fold
  rw [if_neg (by omega), if_neg (by omega)]
  omega
/-- Two numbers that are alike by 65535, neither of them 0. -/
theorem fold_congr {a b k : Int} (ha : a ≠ 0) (hb : b ≠ 0) (h : a = b + 65535 * k) : fold a = fold b := by
  unfold fold
  rw [if_neg ha, if_neg hb]
  omega
theorem fold_eq (n : Int) : ∃ k, fold n = n + 65535 * k := by
  unfold fold
  split
  · exact ⟨0, by omega⟩
  · exact ⟨-((n - 1) / 65535), by omega⟩

/-- The sum of bytes, the first of them at an even place where p is even. -/
def raw : Nat → List Int → Int
  | _, [] => 0
  | p, x :: r => (if p % 2 = 0 then 256 * x else x) + raw (p + 1) r

/-- Each is a byte. -/
def IsB (l : List Int) : Prop := ∀ x ∈ l, 0 ≤ x ∧ x ≤ 255

theorem IsB.of {l : List Int} (h : l.all (fun x => decide (0 ≤ x ∧ x ≤ 255)) = true) : IsB l := fun x hx => by
  have := List.all_eq_true.1 h x hx
  simpa using this
theorem IsB.nil : IsB [] := fun _ h => by cases h
theorem IsB.append {a b : List Int} (ha : IsB a) (hb : IsB b) : IsB (a ++ b) := fun x hx => by
  rcases List.mem_append.1 hx with h | h
  · exact ha x h
  · exact hb x h
theorem IsB.left {a b : List Int} (h : IsB (a ++ b)) : IsB a := fun x hx => h x (List.mem_append_left _ hx)
theorem IsB.right {a b : List Int} (h : IsB (a ++ b)) : IsB b := fun x hx => h x (List.mem_append_right _ hx)
theorem IsB.take {a : List Int} (h : IsB a) (n : Nat) : IsB (a.take n) := fun x hx => h x (List.mem_of_mem_take hx)
theorem IsB.drop {a : List Int} (h : IsB a) (n : Nat) : IsB (a.drop n) := fun x hx => h x (List.mem_of_mem_drop hx)
theorem IsB.cons {x : Int} {a : List Int} (h0 : 0 ≤ x) (h1 : x ≤ 255) (h : IsB a) : IsB (x :: a) := fun y hy => by
  rcases List.mem_cons.1 hy with rfl | hy
  · exact ⟨h0, h1⟩
  · exact h y hy
theorem IsB.getD {a : List Int} (h : IsB a) (i : Nat) : 0 ≤ a.getD i 0 ∧ a.getD i 0 ≤ 255 := by
  rw [List.getD_eq_getElem?_getD]
  rcases Nat.lt_or_ge i a.length with hi | hi
  · rw [List.getElem?_eq_getElem hi]; exact h _ (List.getElem_mem hi)
  · rw [List.getElem?_eq_none hi]; exact ⟨by simp, by simp⟩
theorem IsB.set {a : List Int} (h : IsB a) (i : Nat) {x : Int} (h0 : 0 ≤ x) (h1 : x ≤ 255) : IsB (a.set i x) := fun y hy => by
  rcases List.mem_or_eq_of_mem_set hy with hy | rfl
  · exact h y hy
  · exact ⟨h0, h1⟩

theorem raw_append (xs ys : List Int) : ∀ p, raw p (xs ++ ys) = raw p xs + raw (p + xs.length) ys := by
  induction xs with
  | nil => intro p; simp [raw]
  | cons x r ih =>
    intro p
    simp only [List.cons_append, raw, ih, List.length_cons]
    rw [show p + 1 + r.length = p + (r.length + 1) from by omega]
    omega
theorem raw_even (xs : List Int) : ∀ p, raw (p + 2) xs = raw p xs := by
  induction xs with
  | nil => intro p; rfl
  | cons x r ih =>
    intro p
    simp only [raw]
    rw [show p + 2 + 1 = (p + 1) + 2 from by omega, ih, Nat.add_mod_right]
theorem raw_par (xs : List Int) (p : Nat) (h : p % 2 = 0) : raw p xs = raw 0 xs := by
  obtain ⟨k, rfl⟩ : ∃ k, p = 2 * k := ⟨p / 2, by omega⟩
  clear h
  induction k with
  | zero => rfl
  | succ k ih => rw [show 2 * (k + 1) = 2 * k + 2 from by omega, raw_even, ih]
theorem raw_snoc (xs : List Int) (x : Int) : raw 0 (xs ++ [x]) = raw 0 xs + (if xs.length % 2 = 0 then 256 * x else x) := by
  rw [raw_append]; simp [raw]
theorem raw_bd {xs : List Int} (h : IsB xs) : ∀ p, 0 ≤ raw p xs ∧ raw p xs ≤ 65280 * xs.length := by
  induction xs with
  | nil => intro p; simp [raw]
  | cons x r ih =>
    intro p
    have hx := h x (List.mem_cons_self ..)
    have hr := ih (fun y hy => h y (List.mem_cons_of_mem _ hy)) (p + 1)
    simp only [raw, List.length_cons]
    split <;> omega
/-- The sum of both parts, the first one of an even number. -/
theorem raw_parts (xs ys : List Int) (h : xs.length % 2 = 0) : raw 0 (xs ++ ys) = raw 0 xs + raw 0 ys := by
  rw [raw_append, Nat.zero_add, raw_par _ _ h]

/-- One byte in the place of another. -/
theorem raw_set (xs : List Int) (y : Int) : ∀ p i, i < xs.length → raw p (xs.set i y) = raw p xs + (if (p + i) % 2 = 0 then 256 * (y - xs.getD i 0) else y - xs.getD i 0) := by
  induction xs with
  | nil => intro p i hi; simp at hi
  | cons x r ih =>
    intro p i hi
    cases i with
    | zero => simp only [List.set_cons_zero, raw, List.getD_cons_zero, Nat.add_zero]; split <;> omega
    | succ i =>
      simp only [List.set_cons_succ, raw, List.getD_cons_succ]
      rw [ih (p + 1) i (by simpa using hi), show p + 1 + i = p + (i + 1) from by omega]
      omega

/-- WHAT IS SWAPPED IS SUMMED ANEW. -/
theorem swaps (was old to now : Int) (hwas : ∃ s, was = fold s ∧ 0 ≤ s ∧ old ≤ s ∧ now = fold (s - old + to)) (ho : 0 ≤ old) (ho' : old ≤ 65535) (ht : 0 ≤ to) (ht' : to ≤ 65535) :
    now = 0 ∨ 65535 - fold (fold (65535 - (65535 - was) + 65535 - old) + to) = 65535 - now := by
  obtain ⟨s, rfl, hs, hos, rfl⟩ := hwas
  by_cases hz : s - old + to = 0
  · left; rw [hz]; rfl
  · right
    have hw0 := fold_lo s
    obtain ⟨k1, e1⟩ := fold_eq s
    obtain ⟨k2, e2⟩ := fold_eq (65535 - (65535 - fold s) + 65535 - old)
    have key : fold (65535 - (65535 - fold s) + 65535 - old) + to ≠ 0 := by
      intro hc
      have hl := fold_lo (65535 - (65535 - fold s) + 65535 - old)
      have h1 : fold (65535 - (65535 - fold s) + 65535 - old) = 0 := by omega
      have h2 : ¬ (65535 - (65535 - fold s) + 65535 - old ≠ 0) := fun hn => by have := fold_pos hn; omega
      have h3 : fold s = 0 ∧ old = 65535 := by omega
      have h4 : ¬ s ≠ 0 := fun hn => by have := fold_pos hn; omega
      omega
    rw [fold_congr (k := k1 + k2 + 1) key hz (by omega)]

/-- The sum of two sums. -/
theorem fold_add {a b : Int} (ha : 0 ≤ a) (hb : 0 ≤ b) : fold (fold a + fold b) = fold (a + b) := by
  by_cases h : a + b = 0
  · have : a = 0 := by omega
    have : b = 0 := by omega
    subst a b; rfl
  · obtain ⟨k1, e1⟩ := fold_eq a
    obtain ⟨k2, e2⟩ := fold_eq b
    have hn : fold a + fold b ≠ 0 := by
      have h1 := fold_lo a
      have h2 := fold_lo b
      by_cases h0 : a = 0
      · have := fold_pos (n := b) (by omega); omega
      · have := fold_pos (n := a) h0; omega
    exact fold_congr (k := k1 + k2) hn h (by omega)
/-- A sum with its check behind it. -/
theorem fold_check {n : Int} (h : 0 ≤ n) : fold (n + (65535 - fold n)) = 65535 := by
  have h1 := fold_lo n
  have h2 := fold_hi n
  unfold fold at *
  split at * <;> split at * <;> omega

end Go.Proofs.YtonjifkjammopaaGreatDoor.Pl
