/- Plain laws of segments as bytes: the head, its check, what bytes may be. Conditions: as each lemma states them. -/
import Derived.Test.YtbjogkpepfgegaaGreatDoorK12
import Derived.Test.YtbjogkpepfgegaaGreatDoorK05
namespace Go.Proofs.YtbjogkpepfgegaaGreatDoor
namespace Pl
/-- A segment's head in words, of n bytes behind it, with a check. -/
def segWords (s : Sg) (n c : Int) : List Int :=
  if s.kind = 17 then [s.frm, s.to, 8 + n, c] else [s.frm, s.to, s.seq / 65536, s.seq % 65536, s.ack / 65536, s.ack % 65536, 20480 + s.flags, s.win, c, 0]
def segBytes (s : Sg) (c : Int) (xs : List Int) : List Int := two (segWords s xs.length c) ++ xs
def segSum (s : Sg) (over : Int) (xs : List Int) : Int := 65535 - fold (over + fold (raw 0 (segBytes s 0 xs)))
def segCheck (s : Sg) (over : Int) (xs : List Int) : Int := if s.kind = 17 ∧ segSum s over xs = 0 then 65535 else segSum s over xs
def segAt (k : Int) : Nat := if k = 6 then 16 else 6
def segSize (k : Int) : Nat := if k = 6 then 20 else 8
theorem segSum_bd (s : Sg) (over : Int) (xs : List Int) : 0 ≤ segSum s over xs ∧ segSum s over xs ≤ 65535 := by
  have h0 := fold_lo (over + fold (raw 0 (segBytes s 0 xs)))
  have h1 := fold_hi (over + fold (raw 0 (segBytes s 0 xs)))
  unfold segSum
  omega
theorem segCheck_bd (s : Sg) (over : Int) (xs : List Int) : 0 ≤ segCheck s over xs ∧ segCheck s over xs ≤ 65535 := by
  have h := segSum_bd s over xs
  unfold segCheck
  split <;> omega
/-- A segment that may be, of so many bytes. -/
def SegOk (s : Sg) (n : Nat) : Prop := (s.kind = 6 ∨ s.kind = 17) ∧ Word s.frm ∧ Word s.to ∧ (0 ≤ s.seq ∧ s.seq < 4294967296) ∧ (0 ≤ s.ack ∧ s.ack < 4294967296) ∧ (0 ≤ s.flags ∧ s.flags ≤ 31) ∧ Word s.win ∧ (s.kind = 17 → s.seq = 0 ∧ s.ack = 0 ∧ s.flags = 0 ∧ s.win = 0) ∧ n ≤ 300
theorem segOk_of {s : Sg} {n : Nat} (h : segFault s n = 0) : SegOk s n := by
  unfold segFault at h
  unfold SegOk Word at *
  split at h
  · omega
  split at h
  · omega
  split at h
  · omega
  split at h
  · omega
  · omega
theorem segOk_to {s : Sg} {n : Nat} (h : SegOk s n) : segFault s n = 0 := by
  unfold SegOk Word at h
  unfold segFault Word
  rw [if_neg (by omega), if_neg (by omega), if_neg (by omega), if_neg (by omega)]
theorem segWords_bd {s : Sg} {n : Nat} {c : Int} (h : SegOk s n) (hc : 0 ≤ c ∧ c ≤ 65535) : ∀ x ∈ segWords s n c, 0 ≤ x ∧ x ≤ 65535 := by
  intro x hx
  unfold SegOk Word at h
  unfold segWords at hx
  split at hx
  all_goals
    simp only [List.mem_cons, List.not_mem_nil, or_false] at hx
    rcases hx with rfl | rfl | rfl | rfl | rfl | rfl | rfl | rfl | rfl | rfl <;> omega
theorem segBytes_isB {s : Sg} {c : Int} {xs : List Int} (h : SegOk s xs.length) (hc : 0 ≤ c ∧ c ≤ 65535) (hx : IsB xs) : IsB (segBytes s c xs) :=
  (two_isB (segWords_bd h hc)).append hx
theorem segBytes_length {s : Sg} {c : Int} {xs : List Int} (h : s.kind = 6 ∨ s.kind = 17) : (segBytes s c xs).length = segSize s.kind + xs.length := by
  unfold segBytes segSize segWords
  rw [List.length_append, two_length]
  rcases h with h | h <;> rw [h] <;> rfl
theorem raw_two : ∀ l : List Int, raw 0 (two l) = l.sum
  | [] => rfl
  | x :: r => by
    have h : two (x :: r) = [x / 256, x % 256] ++ two r := rfl
    rw [h, raw_parts [x / 256, x % 256] (two r) (show 2 % 2 = 0 from rfl), raw_two r, List.sum_cons]
    show 256 * (x / 256) + (x % 256 + 0) + _ = _
    omega
theorem two_even (l : List Int) : (two l).length % 2 = 0 := by rw [two_length]; omega
theorem segWords_sum (s : Sg) (n c : Int) : (segWords s n c).sum = (segWords s n 0).sum + c := by
  unfold segWords
  split <;> simp [List.sum_cons] <;> omega
theorem raw_seg (s : Sg) (c : Int) (xs : List Int) : raw 0 (segBytes s c xs) = raw 0 (segBytes s 0 xs) + c := by
  unfold segBytes
  rw [raw_parts _ _ (two_even _), raw_parts _ _ (two_even _), raw_two, raw_two, segWords_sum]
  omega
theorem segBytes_set (s : Sg) (c : Int) (xs : List Int) (h : s.kind = 6 ∨ s.kind = 17) : ((segBytes s 0 xs).set (segAt s.kind) (c / 256)).set (segAt s.kind + 1) (c % 256) = segBytes s c xs := by
  unfold segBytes segWords segAt
  rcases h with h | h <;> rw [h] <;> rfl

theorem split8 {xs : List Int} (h : 8 ≤ xs.length) : xs = [xs.getD 0 0, xs.getD 1 0, xs.getD 2 0, xs.getD 3 0, xs.getD 4 0, xs.getD 5 0, xs.getD 6 0, xs.getD 7 0] ++ xs.drop 8 := by
  have ht := List.take_append_drop 8 xs
  rw [take_getD xs 8 h] at ht
  exact ht.symm
theorem split20 {xs : List Int} (h : 20 ≤ xs.length) : xs = [xs.getD 0 0, xs.getD 1 0, xs.getD 2 0, xs.getD 3 0, xs.getD 4 0, xs.getD 5 0, xs.getD 6 0, xs.getD 7 0, xs.getD 8 0, xs.getD 9 0, xs.getD 10 0, xs.getD 11 0, xs.getD 12 0, xs.getD 13 0, xs.getD 14 0, xs.getD 15 0, xs.getD 16 0, xs.getD 17 0, xs.getD 18 0, xs.getD 19 0] ++ xs.drop 20 := by
  have ht := List.take_append_drop 20 xs
  rw [take_getD xs 20 h] at ht
  exact ht.symm

/-- The segment that bytes may be. -/
def decSeg (k : Int) (xs : List Int) : Sg :=
  if k = 6 then ⟨k, at2 xs 0, at2 xs 2, at2 xs 4 * 65536 + at2 xs 6, at2 xs 8 * 65536 + at2 xs 10, xs.getD 13 0 % 32, at2 xs 14⟩
  else ⟨k, at2 xs 0, at2 xs 2, 0, 0, 0, 0⟩
theorem decSeg_kind (k : Int) (xs : List Int) : (decSeg k xs).kind = k := by unfold decSeg; split <;> rfl
/-- Bytes that are of the form. -/
def IsSeg (k : Int) (xs : List Int) : Prop :=
  (segSize k ≤ xs.length ∧ xs.length ≤ segSize k + 300) ∧ (k = 6 → xs.getD 12 0 = 80 ∧ xs.getD 13 0 ≤ 31 ∧ xs.getD 18 0 = 0 ∧ xs.getD 19 0 = 0) ∧ (k = 17 → at2 xs 4 = xs.length)
instance (k : Int) (xs : List Int) : Decidable (IsSeg k xs) := by unfold IsSeg; infer_instance

theorem seg_tcp {xs : List Int} (hb : IsB xs) (c : Int) (r : List Int) :
    segBytes (decSeg 6 xs) c r = [xs.getD 0 0, xs.getD 1 0, xs.getD 2 0, xs.getD 3 0, xs.getD 4 0, xs.getD 5 0, xs.getD 6 0, xs.getD 7 0, xs.getD 8 0, xs.getD 9 0, xs.getD 10 0, xs.getD 11 0, 80, xs.getD 13 0 % 32, xs.getD 14 0, xs.getD 15 0, c / 256, c % 256, 0, 0] ++ r := by
  have B := fun i => hb.getD i
  have b0 := B 0
  have b1 := B 1
  have b2 := B 2
  have b3 := B 3
  have b4 := B 4
  have b5 := B 5
  have b6 := B 6
  have b7 := B 7
  have b8 := B 8
  have b9 := B 9
  have b10 := B 10
  have b11 := B 11
  have b13 := B 13
  have b14 := B 14
  have b15 := B 15
  unfold segBytes decSeg segWords at2
  simp only [if_pos, Nat.zero_add]
  generalize xs.getD 0 0 = f0 at *
  generalize xs.getD 1 0 = f1 at *
  generalize xs.getD 2 0 = f2 at *
  generalize xs.getD 3 0 = f3 at *
  generalize xs.getD 4 0 = f4 at *
  generalize xs.getD 5 0 = f5 at *
  generalize xs.getD 6 0 = f6 at *
  generalize xs.getD 7 0 = f7 at *
  generalize xs.getD 8 0 = f8 at *
  generalize xs.getD 9 0 = f9 at *
  generalize xs.getD 10 0 = f10 at *
  generalize xs.getD 11 0 = f11 at *
  generalize xs.getD 13 0 = f13 at *
  generalize xs.getD 14 0 = f14 at *
  generalize xs.getD 15 0 = f15 at *
  clear B hb
  rw [if_neg (by decide)]
  have e1 : ((f4 * 256 + f5) * 65536 + (f6 * 256 + f7)) / 65536 = f4 * 256 + f5 := by omega
  have e2 : ((f4 * 256 + f5) * 65536 + (f6 * 256 + f7)) % 65536 = f6 * 256 + f7 := by omega
  have e3 : ((f8 * 256 + f9) * 65536 + (f10 * 256 + f11)) / 65536 = f8 * 256 + f9 := by omega
  have e4 : ((f8 * 256 + f9) * 65536 + (f10 * 256 + f11)) % 65536 = f10 * 256 + f11 := by omega
  rw [e1, e2, e3, e4]
  show [(f0 * 256 + f1) / 256, (f0 * 256 + f1) % 256, (f2 * 256 + f3) / 256, (f2 * 256 + f3) % 256, (f4 * 256 + f5) / 256, (f4 * 256 + f5) % 256, (f6 * 256 + f7) / 256, (f6 * 256 + f7) % 256, (f8 * 256 + f9) / 256, (f8 * 256 + f9) % 256, (f10 * 256 + f11) / 256, (f10 * 256 + f11) % 256, (20480 + f13 % 32) / 256, (20480 + f13 % 32) % 256, (f14 * 256 + f15) / 256, (f14 * 256 + f15) % 256, c / 256, c % 256, 0, 0] ++ r = _
  have e5 : (20480 + f13 % 32) / 256 = 80 := by omega
  have e6 : (20480 + f13 % 32) % 256 = f13 % 32 := by omega
  rw [cat_div b1, cat_mod b1, cat_div b3, cat_mod b3, cat_div b5, cat_mod b5, cat_div b7, cat_mod b7, cat_div b9, cat_mod b9, cat_div b11, cat_mod b11, cat_div b15, cat_mod b15, e5, e6]
theorem seg_udp {xs : List Int} (hb : IsB xs) (c : Int) (r : List Int) :
    segBytes (decSeg 17 xs) c r = [xs.getD 0 0, xs.getD 1 0, xs.getD 2 0, xs.getD 3 0, (8 + (r.length : Int)) / 256, (8 + (r.length : Int)) % 256, c / 256, c % 256] ++ r := by
  have b0 := hb.getD 0
  have b1 := hb.getD 1
  have b2 := hb.getD 2
  have b3 := hb.getD 3
  unfold segBytes decSeg segWords at2
  simp only [show ¬ ((17 : Int) = 6) from by decide, if_false, Nat.zero_add]
  generalize xs.getD 0 0 = f0 at *
  generalize xs.getD 1 0 = f1 at *
  generalize xs.getD 2 0 = f2 at *
  generalize xs.getD 3 0 = f3 at *
  rw [if_pos trivial]
  show [(f0 * 256 + f1) / 256, (f0 * 256 + f1) % 256, (f2 * 256 + f3) / 256, (f2 * 256 + f3) % 256, (8 + (r.length : Int)) / 256, (8 + (r.length : Int)) % 256, c / 256, c % 256] ++ r = _
  rw [cat_div b1, cat_mod b1, cat_div b3, cat_mod b3]

/-- What is of the form is written so. -/
theorem dec_enc {k : Int} {xs : List Int} (hk : k = 6 ∨ k = 17) (hb : IsB xs) (h : IsSeg k xs) : segBytes (decSeg k xs) (at2 xs (segAt k)) (xs.drop (segSize k)) = xs := by
  obtain ⟨⟨h0, h1⟩, h6, h17⟩ := h
  rcases hk with rfl | rfl
  · obtain ⟨e1, e2, e3, e4⟩ := h6 rfl
    have hs : segSize 6 = 20 := rfl
    have ha : segAt 6 = 16 := rfl
    rw [hs] at h0 ⊢
    rw [ha, seg_tcp hb]
    have hsp := split20 h0
    have b13 := hb.getD 13
    have b17 := hb.getD 17
    conv => rhs; rw [hsp]
    have e5 : xs.getD 13 0 % 32 = xs.getD 13 0 := by omega
    unfold at2
    rw [e5, e1, e3, e4, cat_div b17, cat_mod b17]
  · have e := h17 rfl
    have hs : segSize 17 = 8 := rfl
    have ha : segAt 17 = 6 := rfl
    rw [hs] at h0 ⊢
    rw [ha, seg_udp hb]
    have hsp := split8 h0
    have b5 := hb.getD 5
    have b7 := hb.getD 7
    conv => rhs; rw [hsp]
    have hl : (8 + ((xs.drop 8).length : Int)) = xs.getD 4 0 * 256 + xs.getD 5 0 := by
      rw [List.length_drop]
      have e' : xs.getD 4 0 * 256 + xs.getD 5 0 = xs.length := e
      omega
    unfold at2
    rw [hl, cat_div b5, cat_mod b5, cat_div b7, cat_mod b7]
theorem cat_at {f g c : Int} (h0 : c / 256 = f) (h1 : c % 256 = g) : f * 256 + g = c := by omega
/-- What is written so is of the form. -/
theorem enc_is {k : Int} {xs : List Int} {c : Int} (hk : k = 6 ∨ k = 17) (hb : IsB xs) (h0 : segSize k ≤ xs.length ∧ xs.length ≤ segSize k + 300) (h : segBytes (decSeg k xs) c (xs.drop (segSize k)) = xs) : IsSeg k xs ∧ at2 xs (segAt k) = c := by
  rcases hk with rfl | rfl
  · have hs : segSize 6 = 20 := rfl
    have ha : segAt 6 = 16 := rfl
    rw [hs] at h0 h
    rw [seg_tcp hb] at h
    have g := fun i => congrArg (fun l : List Int => l.getD i 0) h
    have g12 : (80 : Int) = xs.getD 12 0 := g 12
    have g13 : xs.getD 13 0 % 32 = xs.getD 13 0 := g 13
    have g16 : c / 256 = xs.getD 16 0 := g 16
    have g17 : c % 256 = xs.getD 17 0 := g 17
    have g18 : (0 : Int) = xs.getD 18 0 := g 18
    have g19 : (0 : Int) = xs.getD 19 0 := g 19
    refine ⟨⟨by rw [hs]; exact h0, fun _ => ⟨g12.symm, by omega, g18.symm, g19.symm⟩, (fun h => by cases h)⟩, ?_⟩
    rw [ha]
    exact cat_at g16 g17
  · have hs : segSize 17 = 8 := rfl
    have ha : segAt 17 = 6 := rfl
    rw [hs] at h0 h
    rw [seg_udp hb] at h
    have g := fun i => congrArg (fun l : List Int => l.getD i 0) h
    have g4 : (8 + ((xs.drop 8).length : Int)) / 256 = xs.getD 4 0 := g 4
    have g5 : (8 + ((xs.drop 8).length : Int)) % 256 = xs.getD 5 0 := g 5
    have g6 : c / 256 = xs.getD 6 0 := g 6
    have g7 : c % 256 = xs.getD 7 0 := g 7
    refine ⟨⟨by rw [hs]; exact h0, (fun h => by cases h), fun _ => ?_⟩, ?_⟩
    · have := cat_at g4 g5
      rw [List.length_drop] at this
      show xs.getD 4 0 * 256 + xs.getD 5 0 = _
      omega
    · rw [ha]
      exact cat_at g6 g7
/-- With the check of the bytes themselves. -/
def patchS (k : Int) (l m : List Int) : List Int := l.take (segAt k) ++ ((m.drop (segAt k)).take 2 ++ l.drop (segAt k + 2))
theorem patch_seg {k : Int} {xs : List Int} {c : Int} (hk : k = 6 ∨ k = 17) (hb : IsB xs) (h0 : segSize k ≤ xs.length) (r : List Int) : patchS k (segBytes (decSeg k xs) c r) xs = segBytes (decSeg k xs) (at2 xs (segAt k)) r := by
  rcases hk with rfl | rfl
  · have hs : segSize 6 = 20 := rfl
    have ha : segAt 6 = 16 := rfl
    rw [hs] at h0
    unfold patchS
    rw [ha, seg_tcp hb, seg_tcp hb]
    have hd : (xs.drop 16).take 2 = [xs.getD 16 0, xs.getD 17 0] := by
      conv => lhs; rw [split20 h0]
      rfl
    rw [hd]
    have b17 := hb.getD 17
    unfold at2
    rw [cat_div b17, cat_mod b17]
    rfl
  · have hs : segSize 17 = 8 := rfl
    have ha : segAt 17 = 6 := rfl
    rw [hs] at h0
    unfold patchS
    rw [ha, seg_udp hb, seg_udp hb]
    have hd : (xs.drop 6).take 2 = [xs.getD 6 0, xs.getD 7 0] := by
      conv => lhs; rw [split8 h0]
      rfl
    rw [hd]
    have b7 := hb.getD 7
    unfold at2
    rw [cat_div b7, cat_mod b7]
    rfl
theorem at2_rng {l : List Int} (h : IsB l) (i : Nat) : 0 ≤ at2 l i ∧ at2 l i ≤ 65535 := by
  have h0 := h.getD i
  have h1 := h.getD (i + 1)
  unfold at2
  omega
theorem decSeg_ok {k : Int} {xs : List Int} (hk : k = 6 ∨ k = 17) (hb : IsB xs) {n : Nat} (hn : n ≤ 300) : SegOk (decSeg k xs) n := by
  have a2 := fun i => at2_rng hb i
  have h0 := a2 0
  have h2 := a2 2
  have h4 := a2 4
  have h6 := a2 6
  have h8 := a2 8
  have h10 := a2 10
  have h14 := a2 14
  have h13 := hb.getD 13
  unfold SegOk decSeg Word
  rcases hk with rfl | rfl
  · rw [if_pos rfl]
    dsimp only
    omega
  · rw [if_neg (by decide)]
    dsimp only
    omega
/-- What bytes are, as a segment over something: the segment, its bytes, the fault. -/
def segQ (k : Int) (xs : List Int) (over : Int) : Int :=
  if ¬ (k = 6 ∨ k = 17) ∨ ¬ Word over then 1 else if ¬ IsSeg k xs then 5
  else if at2 xs (segAt k) = segCheck (decSeg k xs) over (xs.drop (segSize k)) then 0 else 6
end Pl
end Go.Proofs.YtbjogkpepfgegaaGreatDoor
