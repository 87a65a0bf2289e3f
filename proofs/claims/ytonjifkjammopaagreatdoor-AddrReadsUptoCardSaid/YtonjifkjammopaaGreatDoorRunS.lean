/- addr.run: the longest run of noughts. Conditions: as each lemma states them. -/
import Derived.Test.YtonjifkjammopaaGreatDoorTxt
import Derived.Test.YtonjifkjammopaaGreatDoorSixS
import Derived.Test.YtonjifkjammopaaGreatDoorStore
import Derived.Deep.DeepCutAuto
namespace Go.Proofs.YtonjifkjammopaaGreatDoor
open Go.RowKit
theorem Pl.tw_len : ∀ (l : List Nat) (j : Nat), j ≤ (l.takeWhile (· == 0)).length → (j < l.length ∧ l.getD j 1 = 0 → j + 1 ≤ (l.takeWhile (· == 0)).length) ∧ (¬ (j < l.length ∧ l.getD j 1 = 0) → j = (l.takeWhile (· == 0)).length)
  | [], j, h => ⟨fun h => absurd h.1 (by simp), fun _ => by simpa using h⟩
  | x :: l, j, h => by
    by_cases hx : x = 0
    · subst hx
      have e : ((0 :: l).takeWhile (· == 0)).length = (l.takeWhile (· == 0)).length + 1 := by simp
      rw [e] at h ⊢
      cases j with
      | zero => exact ⟨fun _ => by omega, fun h => absurd ⟨by simp, rfl⟩ h⟩
      | succ j =>
        obtain ⟨h1, h2⟩ := Pl.tw_len l j (by omega)
        refine ⟨fun h => ?_, fun h => ?_⟩
        · have := h1 ⟨by simpa using h.1, by simpa using h.2⟩
          omega
        · have := h2 (fun hh => h ⟨by simpa using hh.1, by simpa using hh.2⟩)
          omega
    · have e : ((x :: l).takeWhile (· == 0)).length = 0 := by simp [hx]
      rw [e] at h ⊢
      obtain rfl : j = 0 := by omega
      exact ⟨fun h => absurd (by simpa using h.2) hx, fun _ => rfl⟩
theorem Pl.noughts_step (l : List Nat) (i j : Nat) (h : j ≤ Pl.noughts l i) : (i + j < l.length ∧ l.getD (i + j) 1 = 0 → j + 1 ≤ Pl.noughts l i) ∧ (¬ (i + j < l.length ∧ l.getD (i + j) 1 = 0) → j = Pl.noughts l i) := by
  obtain ⟨h1, h2⟩ := Pl.tw_len (l.drop i) j h
  have e : (j < (l.drop i).length ∧ (l.drop i).getD j 1 = 0) ↔ (i + j < l.length ∧ l.getD (i + j) 1 = 0) := by
    rw [List.length_drop, List.getD_eq_getElem?_getD, List.getD_eq_getElem?_getD, List.getElem?_drop]
    constructor
    · rintro ⟨a, b⟩; exact ⟨by omega, b⟩
    · rintro ⟨a, b⟩; exact ⟨by omega, b⟩
  exact ⟨fun h => h1 (e.2 h), fun h => h2 fun hh => h (e.1 hh)⟩
def Six.nl (s : Six) : List Nat := s.l.map Int.toNat
theorem Six.nl_len (s : Six) : s.nl.length = 8 := rfl
theorem Six.nl_at (s : Six) (hs : okS s = true) (k : Nat) (hk : k < 8) : s.l.getD k 0 = (s.nl.getD k 1 : Int) := by
  have h := Six.Ok.at (s := s) hs k
  have hl : k < s.l.length := hk
  unfold Six.nl
  rw [List.getD_eq_getElem?_getD, List.getD_eq_getElem?_getD, List.getElem?_map]
  rw [List.getD_eq_getElem?_getD] at h
  rw [List.getElem?_eq_getElem hl] at h ⊢
  simp only [Option.getD_some, Option.map_some] at h ⊢
  omega
theorem Six.nl_le (s : Six) (hs : okS s = true) : ∀ u ∈ s.nl, u ≤ 65535 := by
  intro u hu
  obtain ⟨x, hx, rfl⟩ := List.mem_map.1 hu
  obtain ⟨k, hk, rfl⟩ := List.mem_iff_getElem.1 hx
  have h := Six.Ok.at (s := s) hs k
  rw [List.getD_eq_getElem?_getD, List.getElem?_eq_getElem hk] at h
  simp only [Option.getD_some] at h
  omega
set_option maxRecDepth 100000 in
set_option maxHeartbeats 1000000 in
theorem run6_any (s : Six) (w : World) (hs : okS s = true) :
    Calls Tryz.prog 23 #[s.v] w fun e w' => e = .returned (.tuple #[.int .i64 (Pl.runL s.nl 8).1, .int .i64 (Pl.runL s.nl 8).2]) ∧ Ext w w' := by
  have K0 := Blk.new w 23 s.cells
  have E0 := (Ext.refl w).alloc (.cells s.cells 23)
  have HS := Lib.hid hs
  clear hs
  go_enter Tryz.func23, Tryz.ntmps23
  go_upto_region 1 with (fail)
  refine at_worldE (fun W => Ext w W ∧ Blk W w.heap.size 23 s.cells) ⟨E0, K0⟩ ?_
  clear E0 K0
  rintro W1 ⟨E1, K1⟩
  have HE := Lib.hid E1
  have HK := Lib.hid K1
  clear E1 K1
  go_wp2_with fail
  go_loopw [2, 3, 6] (fun vf vl vi wr => ∃ (i : Nat) (p : Nat × Nat), i ≤ 8 ∧ p = Pl.runL s.nl i ∧ (p.1 ≤ 8 ∧ p.2 ≤ 8) ∧ vf = .int .i64 (p.1 : Int) ∧ vl = .int .i64 (p.2 : Int) ∧ vi = .int .i64 (i : Int) ∧ wr = W1) (fun _ _ vi _ => 8 - (intOf vi).toNat)
  case atStart => exact ⟨0, (0, 0), by omega, rfl, ⟨by decide, by decide⟩, rfl, rfl, rfl, rfl⟩
  case round =>
    obtain ⟨i, ⟨f, g⟩, hi, hp, ⟨hf, hg⟩, rfl, rfl, rfl, rfl⟩ := hrel
    have HP := Lib.hid hp
    clear hp
    have wi : IntKind.i64.wrap ((i : Int) + 1) = (i : Int) + 1 := IntWalk.i64_in _ (by omega)
    by_cases hlt : i < 8
    case neg =>
      obtain rfl : i = 8 := by omega
      go_wp2_with fail
      go_returns
      rw [← HP.out]
      exact ⟨rfl, HE.out⟩
    have hlt' : (i : Int) < 8 := by omega
    go_wp2_with fail
    go_loopw [5] (fun vn W => ∃ j : Nat, vn = .int .i64 (j : Int) ∧ j ≤ Pl.noughts s.nl i ∧ W = wr) (fun vn _ => 8 - (intOf vn).toNat)
    case atStart => exact ⟨0, rfl, Nat.zero_le _, rfl⟩
    case round =>
      obtain ⟨j, rfl, hj, rfl⟩ := hrel
      have hle : j ≤ 8 - i := Nat.le_trans hj (by have := Pl.noughts_le s.nl i; rw [s.nl_len] at this; exact this)
      obtain ⟨hy, hn⟩ := Pl.noughts_step s.nl i j hj
      rw [s.nl_len] at hy hn
      have HY := Lib.hid hy
      have HN := Lib.hid hn
      clear hy hn
      have w1 : IntKind.i64.wrap ((i : Int) + (j : Int)) = (i : Int) + (j : Int) := IntWalk.i64_in _ (by omega)
      have w2 : IntKind.i64.wrap ((j : Int) + 1) = (j : Int) + 1 := IntWalk.i64_in _ (by omega)
      by_cases hij : i + j < 8
      case neg =>
        have hij' : ¬ (i : Int) + (j : Int) < 8 := by omega
        have HJ := Lib.hid (HN.out (fun h => hij h.1))
        clear hj
        by_cases hgt : g < j
        case pos =>
          have hgt' : (g : Int) < (j : Int) := by omega
          go_wp2_with fail
          refine ⟨⟨i + 1, (i, j), by omega, ?_, ⟨by omega, by omega⟩, rfl, rfl, rfl, trivial⟩, by simp [intOf]; omega⟩
          rw [Pl.runL_succ, ← HP.out]
          unfold Pl.runS
          rw [← HJ.out, if_pos hgt]
        have hgt' : ¬ (g : Int) < (j : Int) := by omega
        go_wp2_with fail
        refine ⟨⟨i + 1, (f, g), by omega, ?_, ⟨by omega, by omega⟩, rfl, rfl, rfl, trivial⟩, by simp [intOf]; omega⟩
        rw [Pl.runL_succ, ← HP.out]
        unfold Pl.runS
        rw [← HJ.out, if_neg hgt]
      have hij' : (i : Int) + (j : Int) < 8 := by omega
      have ck := HK.out.cells (i + j)
      rw [s.cells_at _ hij, s.nl_at HS.out _ hij] at ck
      generalize hu : s.nl.getD (i + j) 1 = u at ck
      by_cases hz : u = 0
      case neg =>
        have hz' : ¬ (u : Int) = 0 := by omega
        have HJ := Lib.hid (HN.out (fun h => hz (by rw [← hu]; exact h.2)))
        clear hj
        by_cases hgt : g < j
        case pos =>
          have hgt' : (g : Int) < (j : Int) := by omega
          go_wp2_with fail
          refine ⟨⟨i + 1, (i, j), by omega, ?_, ⟨by omega, by omega⟩, rfl, rfl, rfl, trivial⟩, by simp [intOf]; omega⟩
          rw [Pl.runL_succ, ← HP.out]
          unfold Pl.runS
          rw [← HJ.out, if_pos hgt]
        have hgt' : ¬ (g : Int) < (j : Int) := by omega
        go_wp2_with fail
        refine ⟨⟨i + 1, (f, g), by omega, ?_, ⟨by omega, by omega⟩, rfl, rfl, rfl, trivial⟩, by simp [intOf]; omega⟩
        rw [Pl.runL_succ, ← HP.out]
        unfold Pl.runS
        rw [← HJ.out, if_neg hgt]
      subst hz
      have HJ := Lib.hid (HY.out ⟨hij, hu⟩)
      clear hj
      go_wp2_with fail
      exact ⟨⟨j + 1, rfl, HJ.out, trivial⟩, by simp [intOf]; omega⟩
end Go.Proofs.YtonjifkjammopaaGreatDoor
