/- ip4: what is written is read, in plain lists; Decode of whatever comes in; Encode where it refuses; Pack4s of two alike. Conditions: as each theorem states them. -/
import Derived.Test.YtoaahiclmodcgaaIp4d
namespace Go.Proofs.Ytoaahiclmodcgaa
open Go.RowKit

namespace Pl
/-- Are bytes a packet? -/
def IsPk4 (xs : List Int) : Prop := ∃ s d t k i b, Ok4 s d t k i ∧ IsB b ∧ b.length ≤ 320 ∧ xs = enc4 s d t k i b

theorem raw_head4 (s d t k i n c : Int) : raw 0 (head4 s d t k i n c) = raw 0 (head4 s d t k i n 0) + c := by
  simp [head4, first4, four, raw]
  omega
theorem take_enc4 (s d t k i : Int) (b : List Int) : (enc4 s d t k i b).take 20 = head4 s d t k i b.length (sum4 s d t k i b.length) := by
  unfold enc4
  rw [List.take_append_of_le_length (by rw [head4_length]; omega)]
  exact List.take_of_length_le (by rw [head4_length]; omega)
theorem sum_enc4 {s d t k i : Int} {b : List Int} (h : Ok4 s d t k i) (hn : b.length ≤ 320) : fold (raw 0 ((enc4 s d t k i b).take 20)) = 65535 := by
  rw [take_enc4, raw_head4]
  unfold sum4
  exact fold_check (raw_bd (head4_isB h (by omega) (by omega)) 0).1
theorem drop_enc4 (s d t k i : Int) (b : List Int) : (enc4 s d t k i b).drop 20 = b := by
  unfold enc4
  rw [List.drop_append_of_le_length (by rw [head4_length]; omega), List.drop_of_length_le (by rw [head4_length]; omega)]
  rfl
theorem fields_enc4 {s d t k i : Int} {b : List Int} (h : Ok4 s d t k i) :
    at4 (enc4 s d t k i b) 12 = s ∧ at4 (enc4 s d t k i b) 16 = d ∧ (enc4 s d t k i b).getD 8 0 = t ∧ (enc4 s d t k i b).getD 9 0 = k ∧ at2 (enc4 s d t k i b) 4 = i := by
  obtain ⟨⟨s0, s1⟩, ⟨d0, d1⟩, ⟨t0, t1⟩, ⟨k0, k1⟩, ⟨i0, i1⟩⟩ := h
  unfold enc4 head4 first4 four at4 at2
  simp only [List.cons_append, List.nil_append, List.getD_cons_succ, List.getD_cons_zero]
  refine ⟨by omega, by omega, trivial, trivial, by omega⟩
theorem enc4_inj {s d t k i s' d' t' k' i' : Int} {b b' : List Int} (h : Ok4 s d t k i) (h' : Ok4 s' d' t' k' i') (he : enc4 s d t k i b = enc4 s' d' t' k' i' b') : s = s' ∧ d = d' ∧ t = t' ∧ k = k' ∧ i = i' ∧ b = b' := by
  obtain ⟨e0, e1, e2, e3, e4⟩ := fields_enc4 (b := b) h
  obtain ⟨f0, f1, f2, f3, f4⟩ := fields_enc4 (b := b') h'
  have e5 := drop_enc4 s d t k i b
  rw [he] at e0 e1 e2 e3 e4 e5
  exact ⟨e0.symm.trans f0, e1.symm.trans f1, e2.symm.trans f2, e3.symm.trans f3, e4.symm.trans f4, e5.symm.trans (drop_enc4 ..)⟩
/-- The packet that bytes are is that of their own numbers. -/
theorem pk4_iff {xs : List Int} (hb : IsB xs) (hn : xs.length ≤ 340) : IsPk4 xs ↔ enc4 (at4 xs 12) (at4 xs 16) (xs.getD 8 0) (xs.getD 9 0) (at2 xs 4) (xs.drop 20) = xs := by
  constructor
  · rintro ⟨s, d, t, k, i, b, hok, hbb, hl, rfl⟩
    obtain ⟨e0, e1, e2, e3, e4⟩ := fields_enc4 (b := b) hok
    rw [e0, e1, e2, e3, e4, drop_enc4]
  · intro h
    exact ⟨_, _, _, _, _, _, ok4_of hb, hb.drop 20, by rw [List.length_drop]; omega, h.symm⟩
theorem pk4_len {xs : List Int} (h : IsPk4 xs) : 20 ≤ xs.length ∧ xs.length ≤ 340 := by
  obtain ⟨s, d, t, k, i, b, _, _, hl, rfl⟩ := h
  rw [enc4_length]
  omega
theorem pk4_isB {xs : List Int} (h : IsPk4 xs) : IsB xs := by
  obtain ⟨s, d, t, k, i, b, hok, hb, hl, rfl⟩ := h
  exact enc4_isB hok hb hl
theorem pk4_sum {xs : List Int} (h : IsPk4 xs) : fold (raw 0 (xs.take 20)) = 65535 := by
  obtain ⟨s, d, t, k, i, b, hok, _, hl, rfl⟩ := h
  exact sum_enc4 hok hl
/-- With a byte of the head turned by a power of two it is no packet. -/
theorem pk4_turn {xs : List Int} (h : IsPk4 xs) (j : Nat) (hj : j < 20) (y p : Int) (hp : 1 ≤ p ∧ p ≤ 128) (hy : y = xs.getD j 0 + p ∨ y = xs.getD j 0 - p) : ¬ IsPk4 (xs.set j y) := by
  intro h2
  have e1 := pk4_sum h
  have e2 := pk4_sum h2
  have hl := (pk4_len h).1
  rw [List.take_set] at e2
  rw [raw_set _ _ _ _ (by rw [List.length_take]; omega)] at e2
  have hg : (xs.take 20).getD j 0 = xs.getD j 0 := by simp [List.getD, hj]
  rw [hg] at e2
  generalize raw 0 (xs.take 20) = R at e1 e2
  generalize xs.getD j 0 = x at *
  unfold fold at e1 e2
  split at e1
  · omega
  · split at e2
    · omega
    · split at e2 <;> omega
end Pl

end Go.Proofs.Ytoaahiclmodcgaa
