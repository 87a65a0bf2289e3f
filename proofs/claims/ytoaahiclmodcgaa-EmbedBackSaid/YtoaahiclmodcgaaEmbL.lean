/- Plain laws of fours in sixes: what goes in comes out. Conditions: as each lemma states them. -/
import Derived.Test.YtoaahiclmodcgaaEmb5
import Derived.Test.YtoaahiclmodcgaaSixEq
namespace Go.Proofs.Ytoaahiclmodcgaa
namespace Pl
theorem list16 {xs : List Int} (h : xs.length = 16) : ∃ x0 x1 x2 x3 x4 x5 x6 x7 x8 x9 x10 x11 x12 x13 x14 x15, xs = [x0, x1, x2, x3, x4, x5, x6, x7, x8, x9, x10, x11, x12, x13, x14, x15] := by
  match xs, h with
  | [x0, x1, x2, x3, x4, x5, x6, x7, x8, x9, x10, x11, x12, x13, x14, x15], _ => exact ⟨x0, x1, x2, x3, x4, x5, x6, x7, x8, x9, x10, x11, x12, x13, x14, x15, rfl⟩
theorem two_sixAt {xs : List Int} (h : xs.length = 16) (hb : IsB xs) : two (sixAt xs).l = xs := by
  obtain ⟨x0, x1, x2, x3, x4, x5, x6, x7, x8, x9, x10, x11, x12, x13, x14, x15, rfl⟩ := list16 h
  have b1 := hb x1 (by simp)
  have b3 := hb x3 (by simp)
  have b5 := hb x5 (by simp)
  have b7 := hb x7 (by simp)
  have b9 := hb x9 (by simp)
  have b11 := hb x11 (by simp)
  have b13 := hb x13 (by simp)
  have b15 := hb x15 (by simp)
  have cd : ∀ {a b : Int}, 0 ≤ b ∧ b ≤ 255 → (a * 256 + b) / 256 = a := fun h => by omega
  have cm : ∀ {a b : Int}, 0 ≤ b ∧ b ≤ 255 → (a * 256 + b) % 256 = b := fun h => by omega
  show [(x0 * 256 + x1) / 256, (x0 * 256 + x1) % 256, (x2 * 256 + x3) / 256, (x2 * 256 + x3) % 256, (x4 * 256 + x5) / 256, (x4 * 256 + x5) % 256, (x6 * 256 + x7) / 256, (x6 * 256 + x7) % 256, (x8 * 256 + x9) / 256, (x8 * 256 + x9) % 256, (x10 * 256 + x11) / 256, (x10 * 256 + x11) % 256, (x12 * 256 + x13) / 256, (x12 * 256 + x13) % 256, (x14 * 256 + x15) / 256, (x14 * 256 + x15) % 256] = _
  rw [cd b1, cm b1, cd b3, cm b3, cd b5, cm b5, cd b7, cm b7, cd b9, cm b9, cd b11, cm b11, cd b13, cm b13, cd b15, cm b15]
theorem okS_sixAt {l : List Int} (hl : IsB l) : okS (sixAt l) = true := by
  unfold okS
  refine words_of fun x hx => ?_
  simp only [Six.l, sixAt, List.mem_cons, List.not_mem_nil, or_false] at hx
  have b := fun i => hl.getD i
  have g : ∀ i j, 0 ≤ l.getD i 0 * 256 + l.getD j 0 ∧ l.getD i 0 * 256 + l.getD j 0 ≤ 65535 := fun i j => by have := b i; have := b j; omega
  rcases hx with rfl | rfl | rfl | rfl | rfl | rfl | rfl | rfl <;> exact g _ _
theorem put_off {f : List Int} {j : Nat} : ∀ (pre : List (Fin 4 × Fin 16)) (b : List Int), (∀ p ∈ pre, p.2.val ≠ j) → (put b f pre).getD j 0 = b.getD j 0 := by
  intro pre
  induction pre with
  | nil => intro b _; rfl
  | cons p r ih =>
    intro b h
    have h1 := ih (b.set p.2.val (f.getD p.1.val 0)) fun q hq => h q (List.mem_cons_of_mem _ hq)
    have h2 : p.2.val ≠ j := h p (List.mem_cons_self ..)
    rw [show put b f (p :: r) = put (b.set p.2.val (f.getD p.1.val 0)) f r from rfl, h1]
    simp only [List.getD_eq_getElem?_getD]
    rw [List.getElem?_set_ne h2]
theorem spots_mem {m : Nat} (hm : m ≤ 12) {p : Fin 4 × Fin 16} (h : p ∈ spots m) : ∃ k, k ≤ 3 ∧ p.2.val = spot m k := by
  unfold spots at h
  simp only [List.mem_cons, List.not_mem_nil, or_false] at h
  rcases h with rfl | rfl | rfl | rfl
  · exact ⟨0, by omega, sp_snd hm (by omega)⟩
  · exact ⟨1, by omega, sp_snd hm (by omega)⟩
  · exact ⟨2, by omega, sp_snd hm (by omega)⟩
  · exact ⟨3, by omega, sp_snd hm (by omega)⟩
theorem spot_lo (m k : Nat) : m ≤ spot m k := by unfold spot; split <;> omega
theorem spot_8 (m k : Nat) : spot m k ≠ 8 := by unfold spot; split <;> omega
theorem spot_up (m : Nat) : spot m 0 < spot m 1 ∧ spot m 1 < spot m 2 ∧ spot m 2 < spot m 3 := by unfold spot; refine ⟨?_, ?_, ?_⟩ <;> (split <;> split <;> omega)
theorem put_low {b f : List Int} {m j : Nat} (hm : m ≤ 12) (h : j < m ∨ j = 8 ∨ spot m 3 < j) : (put b f (spots m)).getD j 0 = b.getD j 0 := by
  refine put_off _ _ fun p hp he => ?_
  obtain ⟨k, hk, hs⟩ := spots_mem hm hp
  have h1 := spot_lo m k
  have h2 := spot_8 m k
  have h3 := spot_up m
  have h4 : k = 0 ∨ k = 1 ∨ k = 2 ∨ k = 3 := by omega
  rcases h4 with rfl | rfl | rfl | rfl <;> omega
theorem put_val {b : List Int} (hb : b.length = 16) {m : Nat} (hm : m ≤ 12) (f : Int) : val (put b (four f) (spots m)) (spots m) = f := by
  have h3 := spot_up m
  have hl := spot_le hm (show 3 ≤ 3 by omega)
  have e0 := sp_snd hm (show 0 ≤ 3 by omega)
  have e1 := sp_snd hm (show 1 ≤ 3 by omega)
  have e2 := sp_snd hm (show 2 ≤ 3 by omega)
  have e3 := sp_snd hm (show 3 ≤ 3 by omega)
  have hp : put b (four f) (spots m) = (((b.set (spot m 0) (f / 16777216)).set (spot m 1) (f / 65536 % 256)).set (spot m 2) (f / 256 % 256)).set (spot m 3) (f % 256) := by
    show ((((b.set (sp m 0).2.val _).set (sp m 1).2.val _).set (sp m 2).2.val _).set (sp m 3).2.val _) = _
    rw [e0, e1, e2, e3]
    rfl
  have hv : ∀ c : List Int, val c (spots m) = (((0 * 256 + c.getD (spot m 0) 0) * 256 + c.getD (spot m 1) 0) * 256 + c.getD (spot m 2) 0) * 256 + c.getD (spot m 3) 0 := fun c => by
    show (((0 * 256 + c.getD (sp m 0).2.val 0) * 256 + c.getD (sp m 1).2.val 0) * 256 + c.getD (sp m 2).2.val 0) * 256 + c.getD (sp m 3).2.val 0 = _
    rw [e0, e1, e2, e3]
  rw [hv, hp]
  generalize spot m 0 = a0 at *
  generalize spot m 1 = a1 at *
  generalize spot m 2 = a2 at *
  generalize spot m 3 = a3 at *
  have g3 : ((((b.set a0 (f / 16777216)).set a1 (f / 65536 % 256)).set a2 (f / 256 % 256)).set a3 (f % 256)).getD a3 0 = f % 256 := by
    simp only [List.getD_eq_getElem?_getD]; rw [List.getElem?_set_self (by first | omega | (simp; omega))]; rfl
  have g2 : ((((b.set a0 (f / 16777216)).set a1 (f / 65536 % 256)).set a2 (f / 256 % 256)).set a3 (f % 256)).getD a2 0 = f / 256 % 256 := by
    simp only [List.getD_eq_getElem?_getD]; rw [List.getElem?_set_ne (by omega), List.getElem?_set_self (by first | omega | (simp; omega))]; rfl
  have g1 : ((((b.set a0 (f / 16777216)).set a1 (f / 65536 % 256)).set a2 (f / 256 % 256)).set a3 (f % 256)).getD a1 0 = f / 65536 % 256 := by
    simp only [List.getD_eq_getElem?_getD]; rw [List.getElem?_set_ne (by omega), List.getElem?_set_ne (by omega), List.getElem?_set_self (by first | omega | (simp; omega))]; rfl
  have g0 : ((((b.set a0 (f / 16777216)).set a1 (f / 65536 % 256)).set a2 (f / 256 % 256)).set a3 (f % 256)).getD a0 0 = f / 16777216 := by
    simp only [List.getD_eq_getElem?_getD]; rw [List.getElem?_set_ne (by omega), List.getElem?_set_ne (by omega), List.getElem?_set_ne (by omega), List.getElem?_set_self (by first | omega | (simp; omega))]; rfl
  rw [g0, g1, g2, g3]
  omega
theorem two_at : ∀ (l : List Int) (q : Nat), q < l.length → (two l).getD (2 * q) 0 = l.getD q 0 / 256 ∧ (two l).getD (2 * q + 1) 0 = l.getD q 0 % 256 := by
  intro l
  induction l with
  | nil => intro q h; cases h
  | cons x r ih =>
    intro q h
    cases q with
    | zero => exact ⟨rfl, rfl⟩
    | succ q =>
      have h1 := ih q (by simpa using h)
      have e1 : 2 * (q + 1) = (2 * q) + 1 + 1 := by omega
      have e2 : 2 * (q + 1) + 1 = (2 * q + 1) + 1 + 1 := by omega
      have et : two (x :: r) = x / 256 :: x % 256 :: two r := rfl
      rw [e2, e1, et, List.getD_cons_succ, List.getD_cons_succ, List.getD_cons_succ, List.getD_cons_succ, List.getD_cons_succ]
      exact h1
/-- A bit of an address is one of its bytes'. -/
theorem bit_byte {s : Six} (h : okS s = true) {i : Nat} (hi : i < 128) : bitAt s i = ((two s.l).getD (i / 8) 0).toNat.testBit (7 - i % 8) := by
  unfold bitAt
  have hw := Six.Ok.at (s := s) h (i / 16)
  have ht := two_at s.l (i / 16) (by show i / 16 < 8; omega)
  generalize s.l.getD (i / 16) 0 = x at *
  obtain ⟨a, rfl⟩ := Int.eq_ofNat_of_zero_le hw.1
  rw [Int.toNat_natCast]
  by_cases hr : i % 16 < 8
  · have e : i / 8 = 2 * (i / 16) := by omega
    rw [e, ht.1, show ((a : Int) / 256).toNat = a / 2 ^ 8 from by omega, Nat.testBit_div_two_pow]
    congr 1
    omega
  · have e : i / 8 = 2 * (i / 16) + 1 := by omega
    rw [e, ht.2, show ((a : Int) % 256).toNat = a % 2 ^ 8 from by omega, Nat.testBit_mod_two_pow]
    have : 15 - i % 16 = 7 - i % 8 := by omega
    rw [this]
    simp
    omega
theorem into_facts {p : Six} {n f : Int} (h : intoErr p n f = 0) : ∃ m : Nat, 4 ≤ m ∧ m ≤ 12 ∧ n = 8 * (m : Int) ∧ (n / 8).toNat = m ∧ okS p = true ∧ longB n = true ∧ clean (two p.l) n ∧ 0 ≤ f ∧ f < 4294967296 ∧
    okS (into p n f) = true ∧ two (into p n f).l = put (two p.l) (four f) (spots m) := by
  have hp : pfxErr p n = 0 := by
    unfold intoErr at h
    by_cases hp : pfxErr p n = 0
    · exact hp
    · rw [if_neg hp] at h; exact absurd h hp
  have hf : 0 ≤ f ∧ f < 4294967296 := by
    unfold intoErr at h
    rw [if_pos hp] at h
    by_cases hf : 0 ≤ f ∧ f < 4294967296
    · exact hf
    · rw [if_neg hf] at h; exact absurd h (by decide)
  have hi : into p n f = sixAt (put (two p.l) (four f) (spots (n / 8).toNat)) := by unfold into; rw [if_pos h]
  obtain ⟨hs, hl, hc⟩ := pfx_zero hp
  obtain ⟨m, h4, h12, hn, hm⟩ := longB_nat hl
  rw [hm] at hi
  have hB : IsB (put (two p.l) (four f) (spots m)) := put_isB (Six.isB hs) (four_isB hf.1 hf.2) _
  have hL : (put (two p.l) (four f) (spots m)).length = 16 := by rw [put_length, two_length]; rfl
  exact ⟨m, h4, h12, hn, hm, hs, hl, hc, hf.1, hf.2, by rw [hi]; exact okS_sixAt hB, by rw [hi]; exact two_sixAt hL hB⟩
/-- WHAT GOES IN COMES OUT. -/
theorem out_into {p : Six} {n f : Int} (h : intoErr p n f = 0) : outErr (into p n f) n = 0 ∧ outVal (into p n f) n = f := by
  obtain ⟨m, h4, h12, hn, hm, hs, hl, hc, hf0, hf1, ho, ht⟩ := into_facts h
  have hlen : (two p.l).length = 16 := by rw [two_length]; rfl
  have hE : outErr (into p n f) n = 0 := by
    unfold outErr
    rw [if_pos ho, if_pos hl, ht, hm, if_pos]
    refine ⟨?_, fun i h1 h2 => ?_⟩
    · rw [put_low h12 (.inr (.inl rfl))]; exact hc 8 (by omega) (.inl rfl)
    · rw [put_low h12 (.inr (.inr h1))]
      have := spot_lo m 3
      exact hc i h2 (.inr (by omega))
  refine ⟨hE, ?_⟩
  unfold outVal
  rw [if_pos hE, ht, hm]
  exact put_val hlen h12 f
/-- IT BEGINS WITH THE PREFIX. -/
theorem in_into {p : Six} {n f : Int} (h : intoErr p n f = 0) : inErr (into p n f) p n = 0 ∧ inVal (into p n f) p n = true := by
  obtain ⟨m, h4, h12, hn, hm, hs, hl, hc, hf0, hf1, ho, ht⟩ := into_facts h
  have hE : inErr (into p n f) p n = 0 := by unfold inErr; rw [if_pos ⟨ho, hs, by omega, by omega⟩]
  refine ⟨hE, ?_⟩
  have hb : inB (into p n f) p n.toNat = true := by
    refine inB_iff.2 fun i hi => ?_
    have hi' : i < 8 * m := by omega
    rw [bit_byte ho (by omega), bit_byte hs (by omega), ht, put_low h12 (.inl (by omega))]
  unfold inVal
  rw [hE, hb]
  rfl
/-- TWO ARE IN ONE ADDRESS ONLY IF THEY ARE ONE. -/
theorem into_one {p : Six} {n f g : Int} (h : intoErr p n f = 0) (k : intoErr p n g = 0) : sixEq (into p n f) (into p n g) = (f == g) := by
  by_cases e : f = g
  · subst e; rw [sixEq_self]; simp
  · have hne : ¬ into p n f = into p n g := fun he => e (by
      have h1 := (out_into h).2
      have h2 := (out_into k).2
      rw [← h1, he, h2])
    have h1 : sixEq (into p n f) (into p n g) = false := by
      cases hh : sixEq (into p n f) (into p n g)
      · rfl
      · exact absurd (sixEq_iff.1 hh) hne
    rw [h1]
    simp [e]
theorem into_fact : intoErr ⟨100, 65435, 0, 0, 0, 0, 0, 0⟩ 96 167772161 = 0 ∧ into ⟨100, 65435, 0, 0, 0, 0, 0, 0⟩ 96 167772161 = ⟨100, 65435, 0, 0, 0, 0, 2560, 1⟩ := by
  have h : intoErr ⟨100, 65435, 0, 0, 0, 0, 0, 0⟩ 96 167772161 = 0 := by decide +kernel
  refine ⟨h, ?_⟩
  unfold into
  rw [if_pos h]
  rfl
end Pl
end Go.Proofs.Ytoaahiclmodcgaa
