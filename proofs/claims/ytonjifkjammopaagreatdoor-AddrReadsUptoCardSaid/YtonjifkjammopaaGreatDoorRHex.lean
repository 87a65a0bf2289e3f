/- The document's hex digits and its text of an address. Conditions: as each lemma states them. -/
import Derived.Test.YtonjifkjammopaaGreatDoorPrint
import Derived.Test.YtonjifkjammopaaGreatDoorParse
namespace Go.Proofs.YtonjifkjammopaaGreatDoor
open Go.RowKit
abbrev hexC : ByteArray := ⟨#[48, 49, 50, 51, 52, 53, 54, 55, 56, 57, 97, 98, 99, 100, 101, 102]⟩
theorem hexC_cut : ∀ d : Fin 16, hexC.extract d.val (d.val + 1) = txtB [Pl.hexD d.val] := by decide
theorem hexC_cut' {d : Nat} (h : d < 16) : hexC.extract d (d + 1) = txtB [Pl.hexD d] := hexC_cut ⟨d, h⟩
/-- The last k digits. -/
def hexLow (u k : Nat) : List UInt8 := (List.range k).map fun j => Pl.hexD (u / 16 ^ (k - 1 - j) % 16)
theorem hexLow_succ (u k : Nat) : hexLow u (k + 1) = Pl.hexD (u / 16 ^ k % 16) :: hexLow u k := by
  unfold hexLow
  rw [List.range_succ_eq_map, List.map_cons, List.map_map]
  rw [Nat.add_sub_cancel, Nat.sub_zero]
  congr 1
  refine List.map_congr_left fun j _ => ?_
  show Pl.hexD (u / 16 ^ (k - (j + 1)) % 16) = _
  rw [show k - (j + 1) = k - 1 - j by omega]
theorem hexLow_hexK (u k : Nat) : hexLow u (k + 1) = Pl.hexK u k := by
  unfold hexLow Pl.hexK
  exact List.map_congr_left fun j _ => by rw [Nat.add_sub_cancel]
theorem hexLow_len (u k : Nat) : (hexLow u k).length = k := by simp [hexLow]
set_option maxRecDepth 100000 in
set_option maxHeartbeats 1000000 in
theorem rhex_any (u : Nat) (hu : u ≤ 65535) (w : World) : Calls Tryz.prog 21 #[.int .i64 (u : Int)] w fun e w' => e = .returned (.string (txtB (Pl.hexW u))) ∧ w' = w := by
  go_enter Tryz.func21, Tryz.ntmps21
  go_wp2_with fail
  go_loopw [0, 3] (fun va vs wr => ∃ (k v : Nat) (S : ByteArray), k ≤ 3 ∧ va = .int .i64 (v : Int) ∧ vs = .string S ∧ Hid ((v = u / 16 ^ k ∧ (k = 0 ∨ 16 ≤ u / 16 ^ (k - 1))) ∧ S = txtB (hexLow u k)) ∧ S.size ≤ 3 ∧ v ≤ u ∧ wr = w) (fun va _ _ => (intOf va).toNat)
  case atStart => exact ⟨0, u, txtB [], by omega, rfl, rfl, Lib.hid ⟨⟨by simp, .inl rfl⟩, rfl⟩, by decide, Nat.le_refl _, rfl⟩
  case round =>
    obtain ⟨k, v, S, hk, rfl, rfl, HV, hS, hvu, rfl⟩ := hrel
    have hc1 : ¬ 9223372036854775807 < 1 + S.size := by omega
    by_cases h16 : 16 ≤ v
    case pos =>
      have h15 : (15 : Int) < (v : Int) := by omega
      have ht : Int.tmod (v : Int) 16 = ((v % 16 : Nat) : Int) := by rw [Int.tmod_eq_emod_of_nonneg (by omega)]; omega
      have hq : Int.tdiv (v : Int) 16 = ((v / 16 : Nat) : Int) := by rw [Int.tdiv_eq_ediv_of_nonneg (by omega)]; omega
      have hm := Nat.mod_lt v (show 0 < 16 by decide)
      have hcut := hexC_cut' hm
      have HM := Lib.hid (show v % 16 = u / 16 ^ k % 16 by rw [HV.out.1.1])
      have HQ := Lib.hid (show v / 16 = u / 16 ^ (k + 1) by rw [HV.out.1.1, Nat.div_div_eq_div_mul, Nat.pow_succ])
      have hk3 : k ≤ 2 := by
        refine Nat.le_of_lt_succ (Nat.lt_of_le_of_ne hk fun h3 => ?_)
        have h1 := HV.out.1.1
        rw [h3] at h1
        have h1 : v = u / 4096 := h1
        omega
      generalize hd : v % 16 = d at *
      generalize hvq : v / 16 = q at *
      have hS2 : txtB [Pl.hexD d] ++ S = txtB (hexLow u (k + 1)) := by rw [HV.out.2, hexLow_succ, ← HM.out, txtB_app]; rfl
      have hSz : (txtB [Pl.hexD d] ++ S).size ≤ 3 := by rw [hS2, txtB_size, hexLow_len]; omega
      have HS2 := Lib.hid (And.intro hS2 hSz)
      clear hS2 hSz
      go_wp2_with fail
      refine ⟨⟨k + 1, q, _, by omega, rfl, rfl, Lib.hid ⟨⟨HQ.out, .inr ?_⟩, HS2.out.1⟩, HS2.out.2, by omega, trivial⟩, by simp [intOf]; omega⟩
      rw [Nat.add_sub_cancel, ← HV.out.1.1]
      exact h16
    case neg =>
      have h15 : ¬ (15 : Int) < (v : Int) := by omega
      have hcut := hexC_cut' (show v < 16 by omega)
      have hk' : k = Pl.hexN u := Pl.hexN_of hu hk (by rw [← HV.out.1.1]; omega) HV.out.1.2
      have hS2 : txtB [Pl.hexD v] ++ S = txtB (Pl.hexW u) := by
        rw [Pl.hexW, ← hk', ← hexLow_hexK, hexLow_succ, ← HV.out.1.1, Nat.mod_eq_of_lt (by omega), HV.out.2, txtB_app]
        rfl
      have HS2 := Lib.hid hS2
      clear hS2 hk'
      go_wp2_with fail
      go_returns
      exact ⟨by rw [← HS2.out]; rfl, rfl⟩
end Go.Proofs.YtonjifkjammopaaGreatDoor
