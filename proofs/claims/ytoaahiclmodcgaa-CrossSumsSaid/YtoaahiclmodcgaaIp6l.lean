/- Plain laws of packets of sixes: what is written is read. Conditions: as each lemma states them. -/
import Derived.Test.YtoaahiclmodcgaaIp6e
import Derived.Test.YtoaahiclmodcgaaIp6d
namespace Go.Proofs.Ytoaahiclmodcgaa
namespace Pl
theorem cat_div {a b : Int} (h : 0 ≤ b ∧ b ≤ 255) : (a * 256 + b) / 256 = a := by omega
theorem cat_mod {a b : Int} (h : 0 ≤ b ∧ b ≤ 255) : (a * 256 + b) % 256 = b := by omega
theorem div_cat (x : Int) : x / 256 * 256 + x % 256 = x := by omega
theorem enc6_length (p : P6) (b : List Int) : (enc6 p b).length = 40 + b.length := by
  unfold enc6 head6
  simp only [List.length_append, two_length]
  simp [Six.l]
theorem enc6_drop (p : P6) (b : List Int) : (enc6 p b).drop 40 = b := rfl
theorem enc6_dec (p : P6) (b : List Int) : dec6 (enc6 p b) = p := by
  obtain ⟨⟨s0, s1, s2, s3, s4, s5, s6, s7⟩, ⟨d0, d1, d2, d3, d4, d5, d6, d7⟩, h, k⟩ := p
  show (⟨⟨s0 / 256 * 256 + s0 % 256, s1 / 256 * 256 + s1 % 256, s2 / 256 * 256 + s2 % 256, s3 / 256 * 256 + s3 % 256, s4 / 256 * 256 + s4 % 256, s5 / 256 * 256 + s5 % 256, s6 / 256 * 256 + s6 % 256, s7 / 256 * 256 + s7 % 256⟩, ⟨d0 / 256 * 256 + d0 % 256, d1 / 256 * 256 + d1 % 256, d2 / 256 * 256 + d2 % 256, d3 / 256 * 256 + d3 % 256, d4 / 256 * 256 + d4 % 256, d5 / 256 * 256 + d5 % 256, d6 / 256 * 256 + d6 % 256, d7 / 256 * 256 + d7 % 256⟩, h, k⟩ : P6) = _
  simp only [div_cat]
theorem enc6_isB {p : P6} {b : List Int} (hg : p.good = true) (hn : b.length ≤ 320) (hb : IsB b) : IsB (enc6 p b) := by
  obtain ⟨hs, hd, hh, hk⟩ := P6.good_all hg
  unfold enc6 head6
  refine ((IsB.append ?_ (Six.isB hs)).append (Six.isB hd)).append hb
  intro x hx
  simp only [List.mem_cons, List.not_mem_nil, or_false] at hx
  rcases hx with rfl | rfl | rfl | rfl | rfl | rfl | rfl | rfl <;> omega
theorem enc6_is {p : P6} {b : List Int} (hn : b.length ≤ 320) : Is6 (enc6 p b) := by
  refine ⟨by rw [enc6_length]; omega, rfl, ⟨rfl, rfl, rfl⟩, ?_⟩
  rw [enc6_length]
  show (b.length : Int) / 256 * 256 + (b.length : Int) % 256 = _
  rw [div_cat]
  omega
theorem enc6_cut {p : P6} {b : List Int} (k : Nat) (hk : k < (enc6 p b).length) : ¬ Is6 ((enc6 p b).take k) := by
  intro ⟨⟨h0, h1⟩, _, _, h4⟩
  rw [List.length_take] at h0 h4
  have hl := enc6_length p b
  have e4 : ((enc6 p b).take k).getD 4 0 = (b.length : Int) / 256 := by
    rw [List.getD_eq_getElem?_getD, List.getElem?_take, if_pos (by omega)]; rfl
  have e5 : ((enc6 p b).take k).getD 5 0 = (b.length : Int) % 256 := by
    rw [List.getD_eq_getElem?_getD, List.getElem?_take, if_pos (by omega)]; rfl
  rw [e4, e5, div_cat] at h4
  omega
theorem enc6_more {p : P6} {b : List Int} (y : Int) : ¬ Is6 (enc6 p b ++ [y]) := by
  intro ⟨_, _, _, h4⟩
  rw [List.length_append, enc6_length] at h4
  have e4 : (enc6 p b ++ [y]).getD 4 0 = (b.length : Int) / 256 := rfl
  have e5 : (enc6 p b ++ [y]).getD 5 0 = (b.length : Int) % 256 := rfl
  rw [e4, e5, div_cat] at h4
  simp at h4
  omega
theorem take_getD (xs : List Int) : ∀ n, n ≤ xs.length → xs.take n = (List.range n).map (fun i => xs.getD i 0)
  | 0, _ => by simp
  | n + 1, h => by
    rw [take_snoc xs n (by omega), take_getD xs n (by omega), List.range_succ, List.map_append]
    rfl
theorem drop_getD (xs : List Int) (k i : Nat) : (xs.drop k).getD i 0 = xs.getD (k + i) 0 := by
  rw [List.getD_eq_getElem?_getD, List.getElem?_drop, List.getD_eq_getElem?_getD]
set_option maxRecDepth 10000 in
theorem dec6_enc {xs : List Int} (hb : IsB xs) (h : Is6 xs) : enc6 (dec6 xs) (xs.drop 40) = xs := by
  obtain ⟨⟨h0, _⟩, e0, ⟨e1, e2, e3⟩, e4⟩ := h
  have ht := List.take_append_drop 40 xs
  have B := fun i => hb.getD i
  have hl : ((xs.drop 40).length : Int) = xs.getD 4 0 * 256 + xs.getD 5 0 := by rw [e4, List.length_drop]; omega
  have hd : dec6 xs = ⟨⟨xs.getD 8 0 * 256 + xs.getD 9 0, xs.getD 10 0 * 256 + xs.getD 11 0, xs.getD 12 0 * 256 + xs.getD 13 0, xs.getD 14 0 * 256 + xs.getD 15 0, xs.getD 16 0 * 256 + xs.getD 17 0, xs.getD 18 0 * 256 + xs.getD 19 0, xs.getD 20 0 * 256 + xs.getD 21 0, xs.getD 22 0 * 256 + xs.getD 23 0⟩, ⟨xs.getD 24 0 * 256 + xs.getD 25 0, xs.getD 26 0 * 256 + xs.getD 27 0, xs.getD 28 0 * 256 + xs.getD 29 0, xs.getD 30 0 * 256 + xs.getD 31 0, xs.getD 32 0 * 256 + xs.getD 33 0, xs.getD 34 0 * 256 + xs.getD 35 0, xs.getD 36 0 * 256 + xs.getD 37 0, xs.getD 38 0 * 256 + xs.getD 39 0⟩, xs.getD 7 0, xs.getD 6 0⟩ := by
    unfold dec6 sixAt at2
    simp only [drop_getD]
  have htk := take_getD xs 40 h0
  rw [hd]
  generalize xs.drop 40 = r at *
  rw [← ht, htk]
  clear ht htk hd h0
  generalize hf : (fun i => xs.getD i 0) = f
  have g : ∀ i, xs.getD i 0 = f i := fun i => by rw [← hf]
  simp only [g] at *
  clear g hf hb
  show [96, 0, 0, 0, (r.length : Int) / 256, (r.length : Int) % 256, f 6, f 7, (f 8 * 256 + f 9) / 256, (f 8 * 256 + f 9) % 256, (f 10 * 256 + f 11) / 256, (f 10 * 256 + f 11) % 256, (f 12 * 256 + f 13) / 256, (f 12 * 256 + f 13) % 256, (f 14 * 256 + f 15) / 256, (f 14 * 256 + f 15) % 256, (f 16 * 256 + f 17) / 256, (f 16 * 256 + f 17) % 256, (f 18 * 256 + f 19) / 256, (f 18 * 256 + f 19) % 256, (f 20 * 256 + f 21) / 256, (f 20 * 256 + f 21) % 256, (f 22 * 256 + f 23) / 256, (f 22 * 256 + f 23) % 256, (f 24 * 256 + f 25) / 256, (f 24 * 256 + f 25) % 256, (f 26 * 256 + f 27) / 256, (f 26 * 256 + f 27) % 256, (f 28 * 256 + f 29) / 256, (f 28 * 256 + f 29) % 256, (f 30 * 256 + f 31) / 256, (f 30 * 256 + f 31) % 256, (f 32 * 256 + f 33) / 256, (f 32 * 256 + f 33) % 256, (f 34 * 256 + f 35) / 256, (f 34 * 256 + f 35) % 256, (f 36 * 256 + f 37) / 256, (f 36 * 256 + f 37) % 256, (f 38 * 256 + f 39) / 256, (f 38 * 256 + f 39) % 256] ++ r = [f 0, f 1, f 2, f 3, f 4, f 5, f 6, f 7, f 8, f 9, f 10, f 11, f 12, f 13, f 14, f 15, f 16, f 17, f 18, f 19, f 20, f 21, f 22, f 23, f 24, f 25, f 26, f 27, f 28, f 29, f 30, f 31, f 32, f 33, f 34, f 35, f 36, f 37, f 38, f 39] ++ r
  rw [hl, cat_div (B 5), cat_mod (B 5), e0, e1, e2, e3, cat_div (B 9), cat_mod (B 9), cat_div (B 11), cat_mod (B 11), cat_div (B 13), cat_mod (B 13), cat_div (B 15), cat_mod (B 15), cat_div (B 17), cat_mod (B 17), cat_div (B 19), cat_mod (B 19), cat_div (B 21), cat_mod (B 21), cat_div (B 23), cat_mod (B 23), cat_div (B 25), cat_mod (B 25), cat_div (B 27), cat_mod (B 27), cat_div (B 29), cat_mod (B 29), cat_div (B 31), cat_mod (B 31), cat_div (B 33), cat_mod (B 33), cat_div (B 35), cat_mod (B 35), cat_div (B 37), cat_mod (B 37), cat_div (B 39), cat_mod (B 39)]
theorem dec6_good {xs : List Int} (hb : IsB xs) : (dec6 xs).good = true := by
  have a2 : ∀ l : List Int, IsB l → ∀ i, 0 ≤ at2 l i ∧ at2 l i ≤ 65535 := fun l hl i => by
    obtain ⟨u0, u1⟩ := hl.getD i
    obtain ⟨v0, v1⟩ := hl.getD (i + 1)
    unfold at2
    omega
  have six : ∀ l : List Int, IsB l → okS (sixAt l) = true := fun l hl => by
    unfold okS
    refine words_of fun x hx => ?_
    simp only [Six.l, sixAt, List.mem_cons, List.not_mem_nil, or_false] at hx
    rcases hx with rfl | rfl | rfl | rfl | rfl | rfl | rfl | rfl <;> exact a2 l hl _
  unfold P6.good dec6
  have h7 := hb.getD 7
  have h6 := hb.getD 6
  simp only [six _ (hb.drop 8), six _ (hb.drop 24), b8, decide_eq_true h7.1, decide_eq_true h7.2, decide_eq_true h6.1, decide_eq_true h6.2, Bool.and_self]
theorem dec6_fault {xs : List Int} (hb : IsB xs) (h : Is6 xs) : (dec6 xs).fault (xs.drop 40).length = 0 := by
  obtain ⟨⟨h0, h1⟩, _⟩ := h
  exact P6.fault_none (dec6_good hb) (by rw [List.length_drop]; omega)
end Pl
end Go.Proofs.Ytoaahiclmodcgaa
