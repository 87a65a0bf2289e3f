/- Plain laws of segments: what is written is read, all sums up to 65535, one byte turned is noticed. Conditions: as each lemma states them. -/
import Derived.Test.YtoaahiclmodcgaaSegP
namespace Go.Proofs.Ytoaahiclmodcgaa
namespace Pl
theorem segBytes_drop {s : Sg} {c : Int} {xs : List Int} (h : s.kind = 6 ∨ s.kind = 17) : (segBytes s c xs).drop (segSize s.kind) = xs := by
  unfold segBytes segWords segSize
  rcases h with h | h <;> rw [h] <;> rfl
theorem segBytes_at {s : Sg} {c : Int} {xs : List Int} (h : s.kind = 6 ∨ s.kind = 17) : at2 (segBytes s c xs) (segAt s.kind) = c := by
  have e : c / 256 * 256 + c % 256 = c := by omega
  unfold segBytes segWords segAt at2
  rcases h with h | h <;> rw [h] <;> exact e
theorem segBytes_is {s : Sg} {c : Int} {xs : List Int} (h : SegOk s xs.length) : IsSeg s.kind (segBytes s c xs) := by
  have hk := h.1
  have hl := segBytes_length (c := c) (xs := xs) hk
  obtain ⟨_, _, _, _, _, ⟨f0, f1⟩, _, _, hn⟩ := h
  refine ⟨by omega, fun hk6 => ?_, fun hk17 => ?_⟩
  · unfold segBytes segWords
    rw [hk6, if_neg (by decide)]
    have e1 : (20480 + s.flags) / 256 = 80 := by omega
    have e2 : (20480 + s.flags) % 256 ≤ 31 := by omega
    exact ⟨e1, e2, rfl, rfl⟩
  · have e : (8 + (xs.length : Int)) / 256 * 256 + (8 + (xs.length : Int)) % 256 = ((segBytes s c xs).length : Int) := by
      rw [hl, hk17, show segSize 17 = 8 from rfl]; omega
    rw [← e]
    unfold segBytes segWords at2
    rw [hk17]
    rfl
theorem segBytes_dec {s : Sg} {c : Int} {xs : List Int} (h : SegOk s xs.length) : decSeg s.kind (segBytes s c xs) = s := by
  unfold SegOk Word at h
  obtain ⟨k, f, t, q, a, fl, w⟩ := s
  dsimp only at h ⊢
  obtain ⟨rfl | rfl, hf, ht, hq, ha, hfl, hw, hz, hn⟩ := h
  · show (⟨6, f / 256 * 256 + f % 256, t / 256 * 256 + t % 256, (q / 65536 / 256 * 256 + q / 65536 % 256) * 65536 + (q % 65536 / 256 * 256 + q % 65536 % 256), (a / 65536 / 256 * 256 + a / 65536 % 256) * 65536 + (a % 65536 / 256 * 256 + a % 65536 % 256), (20480 + fl) % 256 % 32, w / 256 * 256 + w % 256⟩ : Sg) = _
    have e1 : f / 256 * 256 + f % 256 = f := by omega
    have e2 : t / 256 * 256 + t % 256 = t := by omega
    have e3 : (q / 65536 / 256 * 256 + q / 65536 % 256) * 65536 + (q % 65536 / 256 * 256 + q % 65536 % 256) = q := by omega
    have e4 : (a / 65536 / 256 * 256 + a / 65536 % 256) * 65536 + (a % 65536 / 256 * 256 + a % 65536 % 256) = a := by omega
    have e5 : (20480 + fl) % 256 % 32 = fl := by omega
    have e6 : w / 256 * 256 + w % 256 = w := by omega
    rw [e1, e2, e3, e4, e5, e6]
  · show (⟨17, f / 256 * 256 + f % 256, t / 256 * 256 + t % 256, 0, 0, 0, 0⟩ : Sg) = _
    have e1 : f / 256 * 256 + f % 256 = f := by omega
    have e2 : t / 256 * 256 + t % 256 = t := by omega
    obtain ⟨rfl, rfl, rfl, rfl⟩ := hz rfl
    rw [e1, e2]
theorem segQ_enc {s : Sg} {over : Int} {xs : List Int} (h : SegOk s xs.length) (ho : Word over) : segQ s.kind (segBytes s (segCheck s over xs) xs) over = 0 := by
  have hk := h.1
  unfold segQ
  rw [if_neg (by rintro (h1 | h1); exact h1 hk; exact h1 ho), if_neg (fun hn => hn (segBytes_is h)), segBytes_at hk, segBytes_drop hk, segBytes_dec h, if_pos rfl]

theorem fold_over {over : Int} (h : Word over) {r : Int} (hr : 0 ≤ r) : fold (over + fold r) = fold (over + r) := by
  have e := fold_add (a := over) (b := r) h.1 hr
  rwa [fold_small h.1 h.2] at e
theorem fold_over' {over : Int} (h : Word over) {r : Int} (hr : 0 ≤ r) : fold (fold r + over) = fold (r + over) := by
  rw [Int.add_comm, fold_over h hr, Int.add_comm]
/-- All together is 65535. -/
theorem seg_all {s : Sg} {over : Int} {xs : List Int} (hk : SegOk s xs.length) (hx : IsB xs) (ho : Word over) : fold (fold (raw 0 (segBytes s (segCheck s over xs) xs)) + over) = 65535 := by
  have h0 := (raw_bd (segBytes_isB (c := 0) hk (by decide) hx) 0).1
  have hc := segCheck_bd s over xs
  rw [raw_seg]
  generalize hR : raw 0 (segBytes s 0 xs) = R at *
  have hS : segSum s over xs = 65535 - fold (over + R) := by
    unfold segSum
    rw [hR, fold_over ho h0]
  rw [fold_over' ho (by omega)]
  have h1 := ho.1
  unfold segCheck
  split
  case isTrue h =>
    have h2 : fold (over + R) = 65535 := by omega
    have h3 : over + R ≠ 0 := fun h => by rw [h] at h2; cases h2
    rw [← h2]
    refine fold_congr (k := 1) (by omega) h3 ?_
    omega
  case isFalse h =>
    rw [hS, show R + (65535 - fold (over + R)) + over = (over + R) + (65535 - fold (over + R)) by omega]
    exact fold_check (by omega)
/-- Of another one over it the check is another one. -/
theorem seg_other {s : Sg} {over other : Int} {xs : List Int} (hk : SegOk s xs.length) (hx : IsB xs) (h0 : 0 ≤ over ∧ over < 65535) (h1 : 0 ≤ other ∧ other < 65535) (hne : other ≠ over) : segCheck s over xs ≠ segCheck s other xs := by
  have hR := (raw_bd (segBytes_isB (c := 0) hk (by decide) hx) 0).1
  have key : ∀ o, 0 ≤ o → o < 65535 → ∃ k, segCheck s o xs = 65535 - (o + raw 0 (segBytes s 0 xs)) + 65535 * k := fun o o0 o1 => by
    obtain ⟨k, hk⟩ := fold_eq (o + raw 0 (segBytes s 0 xs))
    have hS : segSum s o xs = 65535 - fold (o + raw 0 (segBytes s 0 xs)) := by
      unfold segSum
      rw [fold_over ⟨o0, by omega⟩ hR]
    unfold segCheck
    split
    · exact ⟨-k + 1, by omega⟩
    · exact ⟨-k, by omega⟩
  obtain ⟨k1, e1⟩ := key over h0.1 h0.2
  obtain ⟨k2, e2⟩ := key other h1.1 h1.2
  intro h
  omega
/-- One byte is another one: it sums up to something else. -/
theorem flip_sum {xs : List Int} {over y : Int} {j : Nat} (hx : IsB xs) (ho : Word over) (hj : j < xs.length) (hy : 0 ≤ y ∧ y ≤ 255) (hne : y ≠ xs.getD j 0) (h : fold (fold (raw 0 xs) + over) = 65535) (h2 : fold (fold (raw 0 (xs.set j y)) + over) = 65535) : False := by
  have hb := hx.getD j
  have r0 := (raw_bd hx 0).1
  have r1 := (raw_bd (hx.set j hy.1 hy.2) 0).1
  have e := raw_set xs y 0 j hj
  rw [fold_over' ho r0] at h
  rw [fold_over' ho r1] at h2
  obtain ⟨k1, e1⟩ := fold_eq (raw 0 xs + over)
  obtain ⟨k2, e2⟩ := fold_eq (raw 0 (xs.set j y) + over)
  split at e <;> omega
theorem segQ_zero {k : Int} {xs : List Int} {over : Int} (hb : IsB xs) (h : segQ k xs over = 0) : (k = 6 ∨ k = 17) ∧ Word over ∧ IsSeg k xs ∧ segBytes (decSeg k xs) (segCheck (decSeg k xs) over (xs.drop (segSize k))) (xs.drop (segSize k)) = xs ∧ SegOk (decSeg k xs) (xs.drop (segSize k)).length := by
  unfold segQ at h
  split at h
  · cases h
  rename_i h0
  have hk : k = 6 ∨ k = 17 := Decidable.byContradiction fun hn => h0 (.inl hn)
  have ho : Word over := Decidable.byContradiction fun hn => h0 (.inr hn)
  split at h
  · cases h
  rename_i h1
  have hi : IsSeg k xs := Decidable.byContradiction h1
  split at h
  · rename_i h2
    refine ⟨hk, ho, hi, ?_, decSeg_ok hk hb ?_⟩
    · rw [← h2]; exact dec_enc hk hb hi
    · have := hi.1.2
      rw [List.length_drop]
      omega
  · cases h
theorem segQ_flip {k : Int} {xs : List Int} {over y : Int} {j : Nat} (hx : IsB xs) (ho : Word over) (hj : j < xs.length) (hy : 0 ≤ y ∧ y ≤ 255) (hne : y ≠ xs.getD j 0) (h : fold (fold (raw 0 xs) + over) = 65535) : segQ k (xs.set j y) over ≠ 0 := by
  intro hq
  have hb := hx.set j hy.1 hy.2
  obtain ⟨hk, _, hi, he, hok⟩ := segQ_zero hb hq
  have ha := seg_all hok (hb.drop _) ho
  rw [he] at ha
  exact flip_sum hx ho hj hy hne h ha
end Pl
end Go.Proofs.Ytoaahiclmodcgaa
