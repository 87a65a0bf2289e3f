/- The document's SixText. Conditions: as each lemma states them. -/
import Derived.Test.YtonjifkjammopaaGreatDoorRHex
import Derived.Test.YtonjifkjammopaaGreatDoorRTxtL
import Derived.Deep.DeepCutAuto
namespace Go.Proofs.YtonjifkjammopaaGreatDoor
open Go.RowKit
theorem nl_getD0 (s : Six) (hs : okS s = true) (k : Nat) (hk : k < 8) : s.l.getD k 0 = (s.nl.getD k 0 : Int) := by
  rw [s.nl_at hs k hk]
  have : k < s.nl.length := by rw [s.nl_len]; exact hk
  simp [List.getD, this]
theorem nl_le0 (s : Six) (hs : okS s = true) (k : Nat) (hk : k < 8) : s.nl.getD k 0 ≤ 65535 := by
  have h : k < s.nl.length := by rw [s.nl_len]; exact hk
  have := s.nl_le hs (s.nl[k]) (List.getElem_mem h)
  simpa [List.getD, h] using this
theorem rr_bd (s : Six) : (Pl.rr s.nl 8).2 ≤ 8 ∧ (Pl.rr s.nl 8).1 + (Pl.rr s.nl 8).2 ≤ 8 ∧ -1 ≤ (Pl.rr s.nl 8).1 ∧ ((Pl.rr s.nl 8).1 = -1 ∨ 2 ≤ (Pl.rr s.nl 8).2) := by
  have h := runL_bd s
  unfold Pl.rr
  split
  · dsimp only; omega
  · dsimp only; omega
set_option maxRecDepth 100000 in
set_option maxHeartbeats 2000000 in
theorem rsixtext_any (s : Six) (w : World) (hs : okS s = true) : Calls Tryz.prog 5 #[s.v] w fun e w' => e = .returned (.string (txtB (Pl.textL s.nl))) ∧ Ext w w' := by
  have K0 := Blk.new w 23 s.cells
  have E0 := (Ext.refl w).alloc (.cells s.cells 23)
  have HS := Lib.hid hs
  clear hs
  go_enter Tryz.func5, Tryz.ntmps5
  go_upto_region 1 with (fail)
  refine at_worldE (fun W => Ext w W ∧ Blk W w.heap.size 23 s.cells) ⟨E0, K0⟩ ?_
  clear E0 K0
  rintro W1 ⟨E1, K1⟩
  have HE := Lib.hid E1
  have HK := Lib.hid K1
  clear E1 K1
  go_wp2_with fail
  go_loopw [3, 4, 5] (fun vf vl vi wr => ∃ (i : Nat) (p : Int × Nat), i ≤ 8 ∧ p = Pl.rr s.nl i ∧ (-1 ≤ p.1 ∧ p.1 ≤ 8 ∧ p.2 ≤ 8) ∧ vf = .int .i64 p.1 ∧ vl = .int .i64 (p.2 : Int) ∧ vi = .int .i64 (i : Int) ∧ wr = W1) (fun _ _ vi _ => 8 - (intOf vi).toNat)
  case atStart => exact ⟨0, (-1, 1), by omega, rfl, by decide, rfl, rfl, rfl, rfl⟩
  case round =>
    obtain ⟨i, ⟨f, g⟩, hi, hp, ⟨hf1, hf, hg⟩, rfl, rfl, rfl, rfl⟩ := hrel
    have HP := Lib.hid hp
    clear hp
    have wi : IntKind.i64.wrap ((i : Int) + 1) = (i : Int) + 1 := IntWalk.i64_in _ (by omega)
    by_cases hlt : i < 8
    case neg =>
      obtain rfl : i = 8 := by omega
      have hb := rr_bd s
      rw [← HP.out] at hb
      obtain ⟨hb1, hb2, hb3, hb4⟩ := hb
      dsimp only at hb1 hb2 hb3 hb4
      have HEND := Lib.hid (show Pl.txt s.nl f g 8 = Pl.textL s.nl from by
        have := Pl.txt_end s.nl s.nl_len
        rw [← HP.out] at this
        exact this)
      clear HP
      go_wp2_with fail
      go_loopw [7, 8] (fun vs vi W => ∃ (i : Nat) (S : ByteArray), i ≤ 8 ∧ vs = .string S ∧ vi = .int .i64 (i : Int) ∧ Hid (S = txtB (Pl.txt s.nl f g i) ∧ ((i : Int) ≤ f ∨ f < 0 ∨ f + g ≤ i)) ∧ S.size ≤ 82 ∧ Ext wr W) (fun _ vi _ => 8 - (intOf vi).toNat)
      case atStart => exact ⟨0, txtB [], by omega, rfl, rfl, Lib.hid ⟨by unfold Pl.txt; rw [if_pos (by omega)]; rfl, by omega⟩, by decide, Ext.refl _⟩
      case round =>
        obtain ⟨i, S, hi, rfl, rfl, HI, hz, Er⟩ := hrel
        have wi : IntKind.i64.wrap ((i : Int) + 1) = (i : Int) + 1 := IntWalk.i64_in _ (by omega)
        have HE2 := Lib.hid Er
        by_cases hlt : i < 8
        case neg =>
          obtain rfl : i = 8 := by omega
          have hfin : S = txtB (Pl.textL s.nl) := by rw [HI.out.1, HEND.out]
          have HFIN := Lib.hid hfin
          clear Er hfin
          go_wp2_with fail
          go_returns
          exact ⟨by rw [← HFIN.out]; rfl, HE.out.trans HE2.out⟩
        by_cases hiF : (i : Int) = f
        case pos =>
          have hc1 : ¬ 9223372036854775807 < S.size + 2 := by omega
          have w1 : IntKind.i64.wrap ((i : Int) + (g : Int)) = (i : Int) + (g : Int) := IntWalk.i64_in _ (by omega)
          have w2 : IntKind.i64.wrap ((i : Int) + (g : Int) - 1) = (i : Int) + (g : Int) - 1 := IntWalk.i64_in _ (by omega)
          have w3 : IntKind.i64.wrap ((i : Int) + (g : Int) - 1 + 1) = ((i + g : Nat) : Int) := by rw [show (i : Int) + (g : Int) - 1 + 1 = ((i + g : Nat) : Int) by omega]; exact IntWalk.i64_in _ (by omega)
          subst hiF
          have hS2 : S ++ ⟨#[58, 58]⟩ = txtB (Pl.txt s.nl (i : Int) g (i + g)) := by
            rw [Pl.txt_gap s.nl i g (by omega), ← txtB_app, ← HI.out.1]
            rfl
          have hz2 : (S ++ ⟨#[58, 58]⟩ : ByteArray).size ≤ 82 := by
            rw [hS2, txtB_size]
            exact Pl.txt_len _ _ _ _ s.nl_len
          have HS2 := Lib.hid (And.intro hS2 hz2)
          clear Er hS2 hz2
          go_wp2_with fail
          exact ⟨⟨i + g, _, by omega, rfl, by push_cast; rfl, Lib.hid ⟨HS2.out.1, .inr (.inr (by push_cast; omega))⟩, HS2.out.2, HE2.out⟩, by simp [intOf]; omega⟩
        have Kr := HK.out.ext Er
        obtain ⟨S2, hS2⟩ : ∃ S2, S2 = txtB (Pl.colon (Pl.txt s.nl f g i)) := ⟨_, rfl⟩
        have HS2 := Lib.hid hS2
        have hz2 : S2.size ≤ 83 := by
          rw [hS2, txtB_size]
          have := Pl.txt_len s.nl f g i s.nl_len
          unfold Pl.colon
          split
          · omega
          · simp only [List.length_append, List.length_cons, List.length_nil]; omega
        have hlist : S.data.toList = Pl.txt s.nl f g i := by rw [HI.out.1, txtB_list]
        have HLS := Lib.hid hlist
        clear hS2 hlist
        have ck := Kr.cells i
        rw [s.cells_at i hlt, nl_getD0 s HS.out i hlt] at ck
        have hu := nl_le0 s HS.out i hlt
        have HST := Lib.hid (Pl.txt_step s.nl f g i (by rw [s.nl_len]; exact hlt) hiF HI.out.2)
        have HV := Lib.hid HI.out.2
        generalize s.nl.getD i 0 = u at *
        have HRH := Lib.hid (rhex_any u hu wr)
        have hc2 : ¬ 9223372036854775807 < S2.size + (txtB (Pl.hexW u)).size := by rw [txtB_size]; have := Pl.hexW_len u; omega
        have hS3 : S2 ++ txtB (Pl.hexW u) = txtB (Pl.txt s.nl f g (i + 1)) := by rw [HST.out, HS2.out, txtB_app]
        have hz3 : (S2 ++ txtB (Pl.hexW u)).size ≤ 82 := by
          rw [hS3, txtB_size]
          exact Pl.txt_len _ _ _ _ s.nl_len
        have HS3 := Lib.hid (And.intro hS3 hz3)
        clear Kr hS3 hz3
        generalize txtB (Pl.hexW u) = T at *
        clear Er
        by_cases h0 : S.size = 0
        case pos =>
          have hSS : S = S2 := by
            have hnil : Pl.txt s.nl f g i = [] := by
              rw [← HLS.out]
              exact List.length_eq_zero_iff.1 ((Lib.size_eq S).symm.trans h0)
            rw [HS2.out]
            unfold Pl.colon
            rw [if_pos (.inl hnil), ← HI.out.1]
          have h0' : ¬ (0 : Int) < (S.size : Int) := by omega
          subst hSS
          go_wp2_with fail
          refine HRH.out.mono ?_
          rintro e w' ⟨rfl, rfl⟩
          go_wp2_with fail
          have hV2 : ((i + 1 : Nat) : Int) ≤ f ∨ f < 0 ∨ f + g ≤ ((i + 1 : Nat) : Int) := by have := HV.out; omega
          exact ⟨⟨i + 1, _, by omega, rfl, rfl, Lib.hid ⟨HS3.out.1, hV2⟩, HS3.out.2, HE2.out⟩, by simp [intOf]; omega⟩
        have h0' : (0 : Int) < (S.size : Int) := by omega
        have w4 : IntKind.i64.wrap ((S.size : Int) - 1) = ((S.size - 1 : Nat) : Int) := by rw [show (S.size : Int) - 1 = ((S.size - 1 : Nat) : Int) by omega]; exact IntWalk.i64_in _ (by omega)
        obtain ⟨c, hc⟩ : ∃ c, S[S.size - 1]'(by omega) = c := ⟨_, rfl⟩
        have hgl : (Pl.txt s.nl f g i).getLast? = some c := by
          rw [← HLS.out, List.getLast?_eq_getElem?, ← Lib.size_eq, ← hc]
          exact (Array.getElem?_toList ..).trans (Array.getElem?_eq_getElem _)
        have HGL := Lib.hid hgl
        clear hgl
        by_cases h58 : c.toNat = 58
        case pos =>
          have hSS : S = S2 := by
            rw [HS2.out]
            unfold Pl.colon
            rw [if_pos (.inr (by rw [HGL.out]; exact congrArg some (UInt8.toNat_inj.1 h58))), ← HI.out.1]
          have h58' : (c.toNat : Int) = 58 := by omega
          subst hSS
          go_wp2_with fail
          refine HRH.out.mono ?_
          rintro e w' ⟨rfl, rfl⟩
          go_wp2_with fail
          have hV2 : ((i + 1 : Nat) : Int) ≤ f ∨ f < 0 ∨ f + g ≤ ((i + 1 : Nat) : Int) := by have := HV.out; omega
          exact ⟨⟨i + 1, _, by omega, rfl, rfl, Lib.hid ⟨HS3.out.1, hV2⟩, HS3.out.2, HE2.out⟩, by simp [intOf]; omega⟩
        have hSS : S ++ ⟨#[58]⟩ = S2 := by
          rw [HS2.out]
          unfold Pl.colon
          rw [if_neg ?_, ← txtB_app, ← HI.out.1]
          · rfl
          · rintro (hh | hh)
            · rw [← HLS.out] at hh
              exact h0 (by rw [Lib.size_eq, hh]; rfl)
            · rw [HGL.out] at hh
              have := Option.some.inj hh
              subst this
              exact h58 rfl
        have h58' : ¬ (c.toNat : Int) = 58 := by omega
        have hc1 : ¬ 9223372036854775807 < S.size + 1 := by omega
        go_wp2_with fail
        refine HRH.out.mono ?_
        rintro e w' ⟨rfl, rfl⟩
        go_wp2_with fail
        have hV2 : ((i + 1 : Nat) : Int) ≤ f ∨ f < 0 ∨ f + g ≤ ((i + 1 : Nat) : Int) := by have := HV.out; omega
        exact ⟨⟨i + 1, _, by omega, rfl, rfl, Lib.hid ⟨HS3.out.1, hV2⟩, HS3.out.2, HE2.out⟩, by simp [intOf]; omega⟩
    have hlt' : (i : Int) < 8 := by omega
    go_wp2_with fail
    go_loopw [6] (fun vn W => ∃ j : Nat, vn = .int .i64 (j : Int) ∧ j ≤ Pl.noughts s.nl i ∧ W = wr) (fun vn _ => 8 - (intOf vn).toNat)
    case atStart => exact ⟨0, rfl, Nat.zero_le _, rfl⟩
    case round =>
      obtain ⟨j, rfl, hj, rfl⟩ := hrel
      have hle : j ≤ 8 - i := Nat.le_trans hj (by have := Pl.noughts_le s.nl i; rw [s.nl_len] at this; exact this)
      obtain ⟨hy, hn⟩ := Pl.noughts_step s.nl i j hj
      rw [s.nl_len] at hy hn
      have HY := Lib.hid hy
      have HN := Lib.hid hn
      clear hy hn
      have w1 : IntKind.i64.wrap ((i : Int) + (j : Int)) = (i : Int) + (j : Int) := IntWalk.i64_in _ (by omega)
      have w2 : IntKind.i64.wrap ((j : Int) + 1) = (j : Int) + 1 := IntWalk.i64_in _ (by omega)
      by_cases hij : i + j < 8
      case neg =>
        have hij' : ¬ (i : Int) + (j : Int) < 8 := by omega
        have HJ := Lib.hid (HN.out (fun h => hij h.1))
        clear hj
        by_cases hgt : g < j
        case pos =>
          have hgt' : (g : Int) < (j : Int) := by omega
          go_wp2_with fail
          refine ⟨⟨i + 1, ((i : Int), j), by omega, ?_, ⟨by omega, by omega, by omega⟩, rfl, rfl, rfl, trivial⟩, by simp [intOf]; omega⟩
          rw [Pl.rr_succ, ← HP.out, ← HJ.out, if_pos hgt]
        have hgt' : ¬ (g : Int) < (j : Int) := by omega
        go_wp2_with fail
        refine ⟨⟨i + 1, (f, g), by omega, ?_, ⟨by omega, by omega, by omega⟩, rfl, rfl, rfl, trivial⟩, by simp [intOf]; omega⟩
        rw [Pl.rr_succ, ← HP.out, ← HJ.out, if_neg hgt]
      have hij' : (i : Int) + (j : Int) < 8 := by omega
      have ck := HK.out.cells (i + j)
      rw [s.cells_at _ hij, s.nl_at HS.out _ hij] at ck
      generalize hu : s.nl.getD (i + j) 1 = u at ck
      by_cases hz : u = 0
      case neg =>
        have hz' : ¬ (u : Int) = 0 := by omega
        have HJ := Lib.hid (HN.out (fun h => hz (by rw [← hu]; exact h.2)))
        clear hj
        by_cases hgt : g < j
        case pos =>
          have hgt' : (g : Int) < (j : Int) := by omega
          go_wp2_with fail
          refine ⟨⟨i + 1, ((i : Int), j), by omega, ?_, ⟨by omega, by omega, by omega⟩, rfl, rfl, rfl, trivial⟩, by simp [intOf]; omega⟩
          rw [Pl.rr_succ, ← HP.out, ← HJ.out, if_pos hgt]
        have hgt' : ¬ (g : Int) < (j : Int) := by omega
        go_wp2_with fail
        refine ⟨⟨i + 1, (f, g), by omega, ?_, ⟨by omega, by omega, by omega⟩, rfl, rfl, rfl, trivial⟩, by simp [intOf]; omega⟩
        rw [Pl.rr_succ, ← HP.out, ← HJ.out, if_neg hgt]
      subst hz
      have HJ := Lib.hid (HY.out ⟨hij, hu⟩)
      clear hj
      go_wp2_with fail
      exact ⟨⟨j + 1, rfl, HJ.out, trivial⟩, by simp [intOf]; omega⟩
end Go.Proofs.YtonjifkjammopaaGreatDoor
