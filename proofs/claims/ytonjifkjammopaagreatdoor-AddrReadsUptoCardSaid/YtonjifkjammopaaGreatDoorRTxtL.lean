/- The document's text of an address, built from the left, plainly. Conditions: as each lemma states them. -/
import Derived.Test.YtonjifkjammopaaGreatDoorScan
namespace Go.Proofs.YtonjifkjammopaaGreatDoor
namespace Pl
open Go.Lib
theorem hexJ_snoc : ∀ (l : List Nat) (u : Nat), l ≠ [] → hexJ (l ++ [u]) = hexJ l ++ ([58] ++ hexW u)
  | [], _, h => absurd rfl h
  | [v], u, _ => by
    rw [List.singleton_append, hexJ_cons, hexJ_one, hexJ_one]
    rfl
  | v :: w :: r, u, _ => by
    have ih := hexJ_snoc (w :: r) u (by simp)
    rw [show (v :: w :: r) ++ [u] = v :: w :: (r ++ [u]) from rfl, hexJ_cons, hexJ_cons, show w :: (r ++ [u]) = (w :: r) ++ [u] from rfl, ih]
    simp
theorem hexW_last (u : Nat) : ∃ c, (hexW u).getLast? = some c ∧ c ≠ 58 := by
  have hne := hexW_ne u
  refine ⟨(hexW u).getLast hne, List.getLast?_eq_some_getLast hne, hexW_58 u _ (List.getLast_mem hne)⟩
theorem hexJ_last (l : List Nat) (h : l ≠ []) : ∃ c, (hexJ l).getLast? = some c ∧ c ≠ 58 := by
  obtain ⟨r, u, rfl⟩ : ∃ r u, l = r ++ [u] := ⟨l.dropLast, l.getLast h, (List.dropLast_concat_getLast h).symm⟩
  cases hr : r with
  | nil => rw [List.nil_append, hexJ_one]; exact hexW_last u
  | cons a b =>
    rw [hexJ_snoc (a :: b) u (by simp)]
    obtain ⟨c, h1, h2⟩ := hexW_last u
    refine ⟨c, ?_, h2⟩
    rw [List.getLast?_append, List.getLast?_append, h1]
    rfl
/-- The text so far: F, L: where the gap begins (below 0: nowhere), how long it is. -/
def txt (l : List Nat) (F : Int) (L i : Nat) : List UInt8 :=
  if (i : Int) ≤ F ∨ F < 0 then hexJ (l.take i) else hexJ (l.take F.toNat) ++ ([58, 58] ++ hexJ ((l.drop (F.toNat + L)).take (i - F.toNat - L)))
/-- What goes ahead of a word. -/
def colon (s : List UInt8) : List UInt8 := if s = [] ∨ s.getLast? = some 58 then s else s ++ [58]
theorem colon_hexJ (l : List Nat) (h : l ≠ []) : colon (hexJ l) = hexJ l ++ [58] := by
  unfold colon
  obtain ⟨c, h1, h2⟩ := hexJ_last l h
  rw [if_neg]
  rintro (h3 | h3)
  · exact hexJ_ne h h3
  · rw [h1] at h3
    exact h2 (Option.some.inj h3)
theorem txt_step (l : List Nat) (F : Int) (L i : Nat) (hi : i < l.length) (hF : (i : Int) ≠ F) (hV : (i : Int) ≤ F ∨ F < 0 ∨ F + L ≤ i) : txt l F L (i + 1) = colon (txt l F L i) ++ hexW (l.getD i 0) := by
  have hg : l.getD i 0 = l[i] := by simp [List.getD, hi]
  rw [hg]
  by_cases h1 : (i : Int) ≤ F ∨ F < 0
  · unfold txt
    rw [if_pos h1, if_pos (by omega), List.take_add_one, List.getElem?_eq_getElem hi]
    show hexJ (l.take i ++ [l[i]]) = _
    cases ht : l.take i with
    | nil =>
      rw [List.nil_append, hexJ_one]
      rfl
    | cons a b =>
      rw [hexJ_snoc (a :: b) _ (by simp), colon_hexJ (a :: b) (by simp), List.append_assoc]
  · unfold txt
    rw [if_neg h1, if_neg (by omega)]
    obtain ⟨f, rfl⟩ := Int.eq_ofNat_of_zero_le (show 0 ≤ F by omega)
    rw [Int.toNat_natCast]
    have hd : (l.drop (f + L))[i - f - L]? = some l[i] := by
      rw [List.getElem?_drop, show f + L + (i - f - L) = i by omega, List.getElem?_eq_getElem hi]
    rw [show i + 1 - f - L = (i - f - L) + 1 by omega, List.take_add_one, hd]
    generalize hT : (l.drop (f + L)).take (i - f - L) = T
    show hexJ (l.take f) ++ ([58, 58] ++ hexJ (T ++ [l[i]])) = _
    cases T with
    | nil =>
      rw [List.nil_append, hexJ_one]
      have : colon (hexJ (l.take f) ++ ([58, 58] ++ hexJ [])) = hexJ (l.take f) ++ [58, 58] := by
        unfold colon
        have h58 : (hexJ (l.take f) ++ ([58, 58] ++ hexJ [])).getLast? = some 58 := by
          show (hexJ (l.take f) ++ [58, 58]).getLast? = _
          rw [List.getLast?_append]
          rfl
        rw [if_pos (.inr h58)]
        rfl
      rw [this, List.append_assoc]
    | cons a b =>
      have : colon (hexJ (l.take f) ++ ([58, 58] ++ hexJ (a :: b))) = hexJ (l.take f) ++ ([58, 58] ++ hexJ (a :: b)) ++ [58] := by
        unfold colon
        obtain ⟨c, h3, h4⟩ := hexJ_last (a :: b) (by simp)
        rw [if_neg]
        rintro (h5 | h5)
        · simp at h5
        · rw [List.getLast?_append, List.getLast?_append, h3] at h5
          exact h4 (Option.some.inj h5)
      rw [this, hexJ_snoc (a :: b) _ (by simp)]
      simp
/-- The run that the document takes: of two at least. -/
def rr (l : List Nat) (k : Nat) : Int × Nat := if 2 ≤ (runL l k).2 then ((runL l k).1, (runL l k).2) else (-1, 1)
theorem rr_succ (l : List Nat) (k : Nat) : rr l (k + 1) = if (rr l k).2 < noughts l k then ((k : Int), noughts l k) else rr l k := by
  unfold rr
  rw [runL_succ]
  unfold runS
  by_cases h2 : 2 ≤ (runL l k).2
  · rw [if_pos h2]
    by_cases hn : (runL l k).2 < noughts l k
    · rw [if_pos hn, if_pos (by show 2 ≤ noughts l k; omega), if_pos (by exact hn)]
    · rw [if_neg hn, if_pos h2, if_neg (by exact hn)]
  · rw [if_neg h2]
    by_cases hn : 1 < noughts l k
    · rw [if_pos (show (runL l k).2 < noughts l k by omega), if_pos (show 2 ≤ ((k, noughts l k) : Nat × Nat).2 from hn), if_pos (show ((-1 : Int), 1).2 < noughts l k from hn)]
    · rw [if_neg (show ¬ ((-1 : Int), 1).2 < noughts l k from hn)]
      by_cases hm : (runL l k).2 < noughts l k
      · rw [if_pos hm, if_neg (by show ¬ 2 ≤ noughts l k; omega)]
      · rw [if_neg hm, if_neg h2]
theorem txt_end (l : List Nat) (h8 : l.length = 8) : txt l (rr l 8).1 (rr l 8).2 8 = textL l := by
  unfold txt textL rr
  by_cases h2 : 2 ≤ (runL l 8).2
  · rw [if_pos h2, if_neg (show ¬ (runL l 8).2 < 2 by omega)]
    have hb : (runL l 8).1 + (runL l 8).2 ≤ 8 := by
      rcases runL_is l 8 (by omega) with ⟨h3, h4⟩ | h0
      · have := noughts_le l (runL l 8).1
        omega
      · rw [h0]; decide
    rw [if_neg (by show ¬ (((8 : Nat) : Int) ≤ ((runL l 8).1 : Int) ∨ ((runL l 8).1 : Int) < 0); omega)]
    show hexJ (l.take ((runL l 8).1 : Int).toNat) ++ ([58, 58] ++ hexJ ((l.drop (((runL l 8).1 : Int).toNat + (runL l 8).2)).take (8 - ((runL l 8).1 : Int).toNat - (runL l 8).2))) = _
    rw [Int.toNat_natCast, List.append_assoc, show (l.drop ((runL l 8).1 + (runL l 8).2)).take (8 - (runL l 8).1 - (runL l 8).2) = l.drop ((runL l 8).1 + (runL l 8).2) from List.take_of_length_le (by rw [List.length_drop]; omega)]
  · rw [if_neg h2, if_pos (show (((8 : Nat) : Int) ≤ ((-1 : Int), 1).1 ∨ ((-1 : Int), 1).1 < 0) from .inr (by decide)), if_pos (show (runL l 8).2 < 2 by omega), List.take_of_length_le (by omega)]
theorem txt_gap (l : List Nat) (f L : Nat) (hL : 2 ≤ L) : txt l (f : Int) L (f + L) = txt l (f : Int) L f ++ [58, 58] := by
  unfold txt
  rw [if_neg (by omega), if_pos (.inl (Int.le_refl _)), Int.toNat_natCast, show f + L - f - L = 0 by omega]
  simp [hexJ, join_nil]
theorem txt_len (l : List Nat) (F : Int) (L i : Nat) (h8 : l.length = 8) : (txt l F L i).length ≤ 82 := by
  unfold txt
  split
  · have := hexJ_len (l.take i)
    rw [List.length_take] at this
    omega
  · have h1 := hexJ_len (l.take F.toNat)
    have h2 := hexJ_len ((l.drop (F.toNat + L)).take (i - F.toNat - L))
    simp only [List.length_take, List.length_drop, List.length_append, List.length_cons, List.length_nil] at h1 h2 ⊢
    omega
end Pl
end Go.Proofs.YtonjifkjammopaaGreatDoor
