/- What is read from a text, as an address. Conditions: as each lemma states them. -/
import Derived.Test.YtonjifkjammopaaGreatDoorRunS
namespace Go.Proofs.YtonjifkjammopaaGreatDoor
open Go.RowKit
/-- An address of eight numbers. -/
def sixOf (l : List Nat) : Six := ⟨(l.getD 0 0 : Nat), (l.getD 1 0 : Nat), (l.getD 2 0 : Nat), (l.getD 3 0 : Nat), (l.getD 4 0 : Nat), (l.getD 5 0 : Nat), (l.getD 6 0 : Nat), (l.getD 7 0 : Nat)⟩
theorem eight {α : Type} {l : List α} (h : l.length = 8) : ∃ a b c d e f g k, l = [a, b, c, d, e, f, g, k] := by
  match l, h with
  | [a, b, c, d, e, f, g, k], _ => exact ⟨a, b, c, d, e, f, g, k, rfl⟩
theorem sixOf_nl {l : List Nat} (h : l.length = 8) : (sixOf l).nl = l := by
  obtain ⟨a, b, c, d, e, f, g, k, rfl⟩ := eight h
  simp [sixOf, Six.nl, Six.l]
theorem sixOf_cells {l : List Nat} (h : l.length = 8) : (sixOf l).cells.toList = l.map fun n : Nat => Value.int .i64 (n : Int) := by
  obtain ⟨a, b, c, d, e, f, g, k, rfl⟩ := eight h
  rfl
theorem nl_sixOf {s : Six} (h : okS s = true) : sixOf s.nl = s := by
  obtain ⟨h0, h1, h2, h3, h4, h5, h6, h7⟩ := Six.Ok.each (s := s) h
  cases s
  simp [sixOf, Six.nl, Six.l] at *
  omega
theorem sixOf_ok {l : List Nat} (h : l.length = 8) (hl : ∀ u ∈ l, u ≤ 65535) : okS (sixOf l) = true := by
  obtain ⟨a, b, c, d, e, f, g, k, rfl⟩ := eight h
  refine words_of fun x hx => ?_
  simp [sixOf, Six.l] at hx
  simp at hl
  omega
theorem numsT_le (t : List UInt8) : ∀ u ∈ Pl.numsT t, u ≤ 65535 := by
  intro u hu
  unfold Pl.numsT at hu
  split at hu
  · cases hu
  · obtain ⟨x, _, rfl⟩ := List.mem_map.1 hu
    exact Pl.numW_le x
theorem readL_ok {t : List UInt8} {l : List Nat} (h : Pl.readL t = some l) : l.length = 8 ∧ ∀ u ∈ l, u ≤ 65535 := by
  unfold Pl.readL at h
  split at h
  case isFalse => cases h
  case isTrue hle =>
    cases h
    refine ⟨by simp; omega, fun u hu => ?_⟩
    simp only [List.mem_append, List.mem_replicate] at hu
    rcases hu with (hu | ⟨_, rfl⟩) | hu
    · exact numsT_le _ u hu
    · omega
    · exact numsT_le _ u hu
/-- What a text says. -/
def parsed (t : List UInt8) : Option Six :=
  if t.length ≤ 39 then
    match Pl.readL t with
    | some l => if Pl.textL l = t then some (sixOf l) else none
    | none => none
  else none
theorem parsed_some {t : List UInt8} {s : Six} (h : parsed t = some s) : okS s = true ∧ Pl.textL s.nl = t := by
  unfold parsed at h
  split at h
  case isFalse => cases h
  split at h
  case h_2 => cases h
  rename_i l hl
  split at h
  case isFalse => cases h
  rename_i ht
  cases h
  obtain ⟨h8, hle⟩ := readL_ok hl
  exact ⟨sixOf_ok h8 hle, by rw [sixOf_nl h8]; exact ht⟩
theorem parsed_text {s : Six} (h : okS s = true) : parsed (Pl.textL s.nl) = some s := by
  unfold parsed
  rw [if_pos (Pl.text_len _ s.nl_len), Pl.read_text s.nl s.nl_len (s.nl_le h)]
  show (if Pl.textL s.nl = Pl.textL s.nl then some (sixOf s.nl) else none) = some s
  rw [if_pos rfl, nl_sixOf h]
theorem parsed_iff (t : List UInt8) (s : Six) : parsed t = some s ↔ okS s = true ∧ Pl.textL s.nl = t :=
  ⟨parsed_some, fun ⟨h1, h2⟩ => by rw [← h2]; exact parsed_text h1⟩
end Go.Proofs.YtonjifkjammopaaGreatDoor
