/- The contracts of package sum: fold, Raw, Of, number, Add, Not, Swap. Conditions: as each theorem states them. -/
import Derived.Test.YtoaahiclmodcgaaBase
import Derived.Test.YtoaahiclmodcgaaBits
namespace Go.Proofs.Ytoaahiclmodcgaa
open Go.RowKit

set_option maxHeartbeats 400000 in
theorem fold_any (n : Int) (w : World) (h0 : 0 ≤ n) (h1 : n < 4611686018427387904) :
    Calls Try.prog 33 #[.int .i64 n] w fun e w' => e = .returned (.int .i64 (Pl.fold n)) ∧ w = w' := by
  go_enter Try.func33, Try.ntmps33
  go_wp2
  go_loop [0] (fun t => ∃ m : Int, 0 ≤ m ∧ m < 4611686018427387904 ∧ Pl.fold m = Pl.fold n ∧ t = .int .i64 m) (fun t => (intOf t).toNat)
  case atStart => exact ⟨n, h0, h1, rfl, rfl⟩
  case round =>
    obtain ⟨m, hm0, hm1, hf, rfl⟩ := hrel
    have HF := Lib.hid hf
    clear hf
    by_cases hlt : 65535 < m
    · have ha := and65535 hm0 hm1
      go_wp2
      go_round
      case rel => exact ⟨m % 65536 + m / 65536, by omega, by omega, by rw [Pl.fold_step hlt, HF.out], rfl⟩
      case measure => simp [intOf]; omega
    · go_wp2
      go_ret
      exact ⟨ret_int (by rw [← HF.out, Pl.fold_small hm0 (by omega)]), rfl⟩

set_option maxHeartbeats 400000 in
theorem raw_any (a : Option Addr) (n c : Nat) (xs : List Int) (w : World) (hx : Ints .u8 w a n xs) (hb : Pl.IsB xs) (hn : n ≤ 65536) :
    Calls Try.prog 53 #[.slice a n c] w fun e w' => e = .returned (.int .i64 (Pl.fold (Pl.raw 0 xs))) ∧ w = w' := by
  have hl := hx.len
  have hbd := Pl.raw_bd hb 0
  by_cases hz : n = 0
  · subst hz
    obtain rfl : xs = [] := List.length_eq_zero_iff.1 hl
    clear hx
    go_enter Try.func53, Try.ntmps53
    go_wp2
    go_loop [3, 8] (fun t i => t = .int .i64 0 ∧ i = .int .i64 0) (fun _ i => 0 - (intOf i).toNat)
    case atStart => exact ⟨rfl, rfl⟩
    case round =>
      obtain ⟨rfl, rfl⟩ := hrel
      go_wp2_with (go_at_call 33; refine (fold_any _ _ (by omega) (by omega)).mono ?_; rintro e w' ⟨rfl, rfl⟩)
      go_ret
      exact ⟨rfl, rfl⟩
  · obtain ⟨b, off, rfl, hbl, hc⟩ := hx.at (by omega)
    have HC := Lib.hid hc
    have HL := Lib.hid hl
    clear hx hc hl
    go_enter Try.func53, Try.ntmps53
    go_wp2
    go_loop [3, 8] (fun t i => ∃ k : Nat, k ≤ n ∧ i = .int .i64 k ∧ t = .int .i64 (Pl.raw 0 (xs.take k))) (fun _ i => n - (intOf i).toNat)
    case atStart => exact ⟨0, Nat.zero_le _, rfl, rfl⟩
    case round =>
      obtain ⟨k, hk, rfl, rfl⟩ := hrel
      have hB := Pl.raw_bd (hb.take k) 0
      have hkl : (xs.take k).length ≤ k := List.length_take_le _ _
      by_cases hlt : k < n
      · have hsn := Pl.raw_snoc (xs.take k) (xs.getD k 0)
        rw [← take_snoc xs k (by rw [HL.out]; exact hlt), List.length_take_of_le (by rw [HL.out]; omega)] at hsn
        have hbx := hb.getD k
        have hcell := HC.out k hlt
        generalize xs.getD k 0 = x at hsn hbx hcell
        generalize Pl.raw 0 (xs.take k) = s at *
        have HS := Lib.hid hsn
        clear hsn
        by_cases hp : k % 2 = 0
        · have hp' : (k : Int) % 2 = 0 := by omega
          go_wp2
          go_round
          case rel => exact ⟨k + 1, by omega, by go_num, by rw [HS.out, if_pos hp]; go_num⟩
          case measure => simp [intOf]; omega
        · have hp' : (k : Int) % 2 = 1 := by omega
          go_wp2
          go_round
          case rel => exact ⟨k + 1, by omega, by go_num, by rw [HS.out, if_neg hp]⟩
          case measure => simp [intOf]; omega
      · have hk' : k = n := by omega
        have hrest : xs.take k = xs := List.take_of_length_le (by rw [HL.out]; omega)
        have HR := Lib.hid hrest
        clear hk' hrest
        go_wp2_with (go_at_call 33; refine (fold_any _ _ (by omega) (by omega)).mono ?_; rintro e w' ⟨rfl, rfl⟩)
        go_ret
        exact ⟨ret_int (by rw [HR.out]), rfl⟩

/-- Are all of them numbers of 16 bits? -/
def words : List Int → Bool
  | [] => true
  | x :: r => decide (0 ≤ x ∧ x ≤ 65535) && words r
theorem words_snoc (l : List Int) (x : Int) : words (l ++ [x]) = (words l && decide (0 ≤ x ∧ x ≤ 65535)) := by
  induction l with
  | nil => simp [words]
  | cons y r ih => simp [words, ih, Bool.and_assoc]
theorem words_append (l m : List Int) : words (l ++ m) = (words l && words m) := by
  induction l with
  | nil => simp [words]
  | cons y r ih => simp [words, ih, Bool.and_assoc]
theorem words_bad (l : List Int) (k : Nat) (hk : k < l.length) (h : ¬ (0 ≤ l.getD k 0 ∧ l.getD k 0 ≤ 65535)) : words l = false := by
  have e := List.take_append_drop (k + 1) l
  rw [take_snoc l k hk] at e
  rw [← e, words_append, words_snoc, decide_eq_false h]
  simp

set_option maxHeartbeats 400000 in
theorem number_any (a : Option Addr) (n c : Nat) (xs : List Int) (w : World) (hx : Ints .i64 w a n xs) (hn : n ≤ 65536) :
    Calls Try.prog 32 #[.slice a n c] w fun e w' => e = .returned (.bool (words xs)) ∧ w = w' := by
  have hl := hx.len
  by_cases hz : n = 0
  · subst hz
    obtain rfl : xs = [] := List.length_eq_zero_iff.1 hl
    clear hx
    go_enter Try.func32, Try.ntmps32
    go_wp2
    go_loop [7] (fun i => i = .int .i64 0) (fun i => 0 - (intOf i).toNat)
    case atStart => exact rfl
    case round =>
      obtain rfl := hrel
      go_wp2
      go_ret
      exact ⟨rfl, rfl⟩
  · obtain ⟨b, off, rfl, hbl, hc⟩ := hx.at (by omega)
    have HC := Lib.hid hc
    have HL := Lib.hid hl
    clear hx hc hl
    go_enter Try.func32, Try.ntmps32
    go_wp2
    go_loop [7] (fun i => ∃ k : Nat, k ≤ n ∧ i = .int .i64 k ∧ words (xs.take k) = true) (fun i => n - (intOf i).toNat)
    case atStart => exact ⟨0, Nat.zero_le _, rfl, rfl⟩
    case round =>
      obtain ⟨k, hk, rfl, hw⟩ := hrel
      have HW := Lib.hid hw
      clear hw
      by_cases hlt : k < n
      · have hsn := words_snoc (xs.take k) (xs.getD k 0)
        have hbad := words_bad xs k (by rw [HL.out]; exact hlt)
        rw [← take_snoc xs k (by rw [HL.out]; exact hlt), HW.out] at hsn
        have hcell := HC.out k hlt
        generalize xs.getD k 0 = x at hsn hcell hbad
        have HS := Lib.hid hsn
        have HB := Lib.hid hbad
        clear hsn hbad
        by_cases h1 : x < 0
        · go_wp2
          go_ret
          exact ⟨ret_bool (HB.out (by omega)).symm, rfl⟩
        · by_cases h2 : 65535 < x
          · go_wp2
            go_ret
            exact ⟨ret_bool (HB.out (by omega)).symm, rfl⟩
          · go_wp2
            go_round
            case rel => exact ⟨k + 1, by omega, by go_num, by rw [HS.out]; simp; omega⟩
            case measure => simp [intOf]; omega
      · have hk' : k = n := by omega
        have hrest : xs.take k = xs := List.take_of_length_le (by rw [HL.out]; omega)
        rw [hrest] at HW
        clear hk' hrest
        go_wp2
        go_ret
        exact ⟨ret_bool HW.out.symm, rfl⟩

/-- An error of the program's, by its number. -/
def errv (n : Int) : Value := .iface 64 (.int .i64 n)

theorem ints_new (w : World) (cs : Array Value) (t : TypeId) (m : Nat × Nat) (k : IntKind) (xs : List Int) (h : cs.toList = xs.map (Value.int k)) : Ints k (w.alloc (.cells cs t m)) (some ⟨w.heap.size, 0, none⟩) xs.length xs := by
  refine ⟨rfl, .inr ⟨_, _, rfl, fun i hi => ?_⟩⟩
  rw [World.cell?_alloc_mark]
  simp only [Nat.zero_add]
  rw [← Array.getElem?_toList, h, List.getElem?_map, List.getElem?_eq_getElem hi]
  simp [List.getD, hi]

theorem add_ok (a b : Int) (w : World) (ha : 0 ≤ a ∧ a ≤ 65535) (hb : 0 ≤ b ∧ b ≤ 65535) :
    Calls Try.prog 57 #[.int .i64 a, .int .i64 b] w fun e w' => e = .returned (.tuple #[.int .i64 (Pl.fold (a + b)), .nilIface]) ∧ Below w.heap.size w w' := by
  obtain ⟨a0, a1⟩ := ha
  obtain ⟨b0, b1⟩ := hb
  have hw : words [a, b] = true := by simp [words]; omega
  have HW := Lib.hid hw
  clear hw
  go_enter Try.func57, Try.ntmps57
  go_wp2_with fail
  refine (number_any _ _ _ [a, b] _ (ints_new w _ _ _ _ _ rfl) (by simp)).mono ?_
  rintro e w' ⟨rfl, rfl⟩
  rw [HW.out]
  go_wp2_with (go_at_call 33; refine (fold_any _ _ (by omega) (by omega)).mono ?_; rintro e w' ⟨rfl, rfl⟩)
  go_ret2
  exact ⟨rfl, by go_grown⟩
theorem add_bad (a b : Int) (w : World) (h : words [a, b] = false) :
    Calls Try.prog 57 #[.int .i64 a, .int .i64 b] w fun e w' => e = .returned (.tuple #[.int .i64 0, errv 1]) ∧ Below w.heap.size w w' := by
  have HW := Lib.hid h
  clear h
  go_enter Try.func57, Try.ntmps57
  go_wp2_with fail
  refine (number_any _ _ _ [a, b] _ (ints_new w _ _ _ _ _ rfl) (by simp)).mono ?_
  rintro e w' ⟨rfl, rfl⟩
  rw [HW.out]
  go_wp2
  go_ret2
  exact ⟨rfl, by go_grown⟩
/-- What Swap gives of three numbers. -/
def swapv (a b c : Int) : Int := 65535 - Pl.fold (Pl.fold (65535 - a + 65535 - b) + c)
theorem swap_ok (a b c : Int) (w : World) (ha : 0 ≤ a ∧ a ≤ 65535) (hb : 0 ≤ b ∧ b ≤ 65535) (hc : 0 ≤ c ∧ c ≤ 65535) :
    Calls Try.prog 16 #[.int .i64 a, .int .i64 b, .int .i64 c] w fun e w' => e = .returned (.tuple #[.int .i64 (swapv a b c), .nilIface]) ∧ Below w.heap.size w w' := by
  obtain ⟨a0, a1⟩ := ha
  obtain ⟨b0, b1⟩ := hb
  obtain ⟨c0, c1⟩ := hc
  have hw : words [a, b, c] = true := by simp [words]; omega
  have HW := Lib.hid hw
  clear hw
  have f0 := Pl.fold_lo (65535 - a + 65535 - b)
  have f1 := Pl.fold_hi (65535 - a + 65535 - b)
  have g0 := Pl.fold_lo (Pl.fold (65535 - a + 65535 - b) + c)
  have g1 := Pl.fold_hi (Pl.fold (65535 - a + 65535 - b) + c)
  go_enter Try.func16, Try.ntmps16
  go_wp2_with fail
  refine (number_any _ _ _ [a, b, c] _ (ints_new w _ _ _ _ _ rfl) (by simp)).mono ?_
  rintro e w' ⟨rfl, rfl⟩
  rw [HW.out]
  go_wp2_with (go_at_call 33; refine (fold_any _ _ (by omega) (by omega)).mono ?_; rintro e w' ⟨rfl, rfl⟩)
  go_ret2
  exact ⟨rfl, by go_grown⟩
theorem swap_bad (a b c : Int) (w : World) (h : words [a, b, c] = false) :
    Calls Try.prog 16 #[.int .i64 a, .int .i64 b, .int .i64 c] w fun e w' => e = .returned (.tuple #[.int .i64 0, errv 1]) ∧ Below w.heap.size w w' := by
  have HW := Lib.hid h
  clear h
  go_enter Try.func16, Try.ntmps16
  go_wp2_with fail
  refine (number_any _ _ _ [a, b, c] _ (ints_new w _ _ _ _ _ rfl) (by simp)).mono ?_
  rintro e w' ⟨rfl, rfl⟩
  rw [HW.out]
  go_wp2
  go_ret2
  exact ⟨rfl, by go_grown⟩
end Go.Proofs.Ytoaahiclmodcgaa
