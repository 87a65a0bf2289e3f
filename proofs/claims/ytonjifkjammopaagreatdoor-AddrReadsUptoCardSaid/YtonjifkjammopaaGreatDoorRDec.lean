/- The document's digit, Dec and FourText. Conditions: as each lemma states them. -/
import Derived.Test.YtonjifkjammopaaGreatDoorRHex
import Derived.Test.YtonjifkjammopaaGreatDoorBack4
import Derived.Test.YtonjifkjammopaaGreatDoorScan
namespace Go.Proofs.YtonjifkjammopaaGreatDoor
open Go.RowKit
def dgI (c : UInt8) : Int := match Pl.dgL c with
  | some d => (d : Int)
  | none => -1
theorem dgL_hexDf : ∀ c : Fin 256, ∀ d, Pl.dgL (UInt8.ofNat c.val) = some d → UInt8.ofNat c.val = Pl.hexD d := by
  intro c d h
  have hlt := Pl.dgL_lt h
  have : ∀ (c : Fin 256) (d : Fin 16), Pl.dgL (UInt8.ofNat c.val) = some d.val → UInt8.ofNat c.val = Pl.hexD d.val := by decide +kernel
  exact this c ⟨d, hlt⟩ h
theorem dgL_hexD' {c : UInt8} {d : Nat} (h : Pl.dgL c = some d) : c = Pl.hexD d := by
  have := dgL_hexDf ⟨c.toNat, c.toNat_lt⟩ d
  rw [show UInt8.ofNat (c.toNat) = c by simp] at this
  exact this h
theorem hexC_atf : ∀ d : Fin 16, hexC[d.val]'(Nat.lt_of_lt_of_le d.isLt (by decide)) = Pl.hexD d.val := by decide
set_option maxRecDepth 100000 in
theorem rdigit_any (c : UInt8) (w : World) : Calls Tryz.prog 26 #[.int .u8 (c.toNat : Int)] w fun e w' => e = .returned (.int .i64 (dgI c)) ∧ w' = w := by
  go_enter Tryz.func26, Tryz.ntmps26
  go_wp2_with fail
  go_loopw [3] (fun vk wr => ∃ k : Nat, k ≤ 16 ∧ vk = .int .i64 (k : Int) ∧ Hid (∀ d, Pl.dgL c = some d → k ≤ d) ∧ wr = w) (fun vk _ => 16 - (intOf vk).toNat)
  case atStart => exact ⟨0, by omega, rfl, Lib.hid (fun _ _ => Nat.zero_le _), rfl⟩
  case round =>
    obtain ⟨k, hk, rfl, HD, rfl⟩ := hrel
    have wk : IntKind.i64.wrap ((k : Int) + 1) = (k : Int) + 1 := IntWalk.i64_in _ (by omega)
    by_cases hlt : k < 16
    case neg =>
      have hn : dgI c = -1 := by
        unfold dgI
        cases h : Pl.dgL c with
        | none => rfl
        | some d =>
          have := HD.out d h
          have := Pl.dgL_lt h
          omega
      have HN := Lib.hid hn
      have hlt' : ¬ (k : Int) < 16 := by omega
      clear hn
      go_wp2_with fail
      go_returns
      exact ⟨by rw [HN.out]; rfl, rfl⟩
    have hlt' : (k : Int) < 16 := by omega
    have hat : hexC[k]'(Nat.lt_of_lt_of_le hlt (by decide)) = Pl.hexD k := hexC_atf ⟨k, hlt⟩
    have HDH := Lib.hid (Pl.dgL_hexD ⟨k, hlt⟩)
    obtain ⟨b, hb⟩ : ∃ b, Pl.hexD k = b := ⟨_, rfl⟩
    rw [hb] at hat
    have HB := Lib.hid hb
    clear hb
    by_cases he : b.toNat = c.toNat
    case pos =>
      have hbc : b = c := UInt8.toNat_inj.1 he
      have hdg : dgI c = (k : Int) := by
        unfold dgI
        rw [← hbc, ← HB.out, show Pl.dgL (Pl.hexD k) = some k from HDH.out]
      have he' : (b.toNat : Int) = (c.toNat : Int) := by omega
      have HG := Lib.hid hdg
      clear hdg
      go_wp2_with fail
      go_returns
      exact ⟨by rw [HG.out]; rfl, rfl⟩
    have he' : ¬ (b.toNat : Int) = (c.toNat : Int) := by omega
    have HN := Lib.hid (show ∀ d, Pl.dgL c = some d → k + 1 ≤ d from fun d hd => by
      have h1 := HD.out d hd
      have h2 := dgL_hexD' hd
      refine Nat.lt_of_le_of_ne h1 fun h3 => he ?_
      rw [h2, ← h3, HB.out])
    go_wp2_with fail
    exact ⟨⟨k + 1, by omega, rfl, HN, trivial⟩, by simp [intOf]; omega⟩
abbrev decC : ByteArray := ⟨#[48, 49, 50, 51, 52, 53, 54, 55, 56, 57]⟩
theorem decC_cut : ∀ d : Fin 10, decC.extract d.val (d.val + 1) = txtB [UInt8.ofNat (48 + d.val)] := by decide
theorem decC_cut' {d : Nat} (h : d < 10) : decC.extract d (d + 1) = txtB [UInt8.ofNat (48 + d)] := decC_cut ⟨d, h⟩
/-- The last k digits. -/
def decLow (u : Nat) : Nat → List UInt8
  | 0 => []
  | 1 => [UInt8.ofNat (48 + u % 10)]
  | _ => [UInt8.ofNat (48 + u / 10 % 10), UInt8.ofNat (48 + u % 10)]
set_option maxRecDepth 100000 in
set_option maxHeartbeats 1000000 in
theorem rdec_any (u : Nat) (hu : u < 1000) (w : World) : Calls Tryz.prog 29 #[.int .i64 (u : Int)] w fun e w' => e = .returned (.string (txtB (dec3 u))) ∧ w' = w := by
  have hneg : ¬ (u : Int) < 0 := by omega
  go_enter Tryz.func29, Tryz.ntmps29
  go_wp2_with fail
  go_loopw [0, 3] (fun va vs wr => ∃ (k v : Nat) (S : ByteArray), k ≤ 2 ∧ va = .int .i64 (v : Int) ∧ vs = .string S ∧ Hid ((v = u / 10 ^ k ∧ (k = 0 ∨ 10 ≤ u / 10 ^ (k - 1))) ∧ S = txtB (decLow u k)) ∧ S.size ≤ 2 ∧ v ≤ u ∧ wr = w) (fun va _ _ => (intOf va).toNat)
  case atStart => exact ⟨0, u, txtB [], by omega, rfl, rfl, Lib.hid ⟨⟨by simp, .inl rfl⟩, rfl⟩, by decide, Nat.le_refl _, rfl⟩
  case round =>
    clear hneg
    obtain ⟨k, v, S, hk, rfl, rfl, HV, hS, hvu, rfl⟩ := hrel
    have hc1 : ¬ 9223372036854775807 < 1 + S.size := by omega
    by_cases h10 : 10 ≤ v
    case pos =>
      have h9 : (9 : Int) < (v : Int) := by omega
      have ht : Int.tmod (v : Int) 10 = ((v % 10 : Nat) : Int) := by rw [Int.tmod_eq_emod_of_nonneg (by omega)]; omega
      have hq : Int.tdiv (v : Int) 10 = ((v / 10 : Nat) : Int) := by rw [Int.tdiv_eq_ediv_of_nonneg (by omega)]; omega
      have hm := Nat.mod_lt v (show 0 < 10 by decide)
      have hcut := decC_cut' hm
      have hkk : k = 0 ∨ k = 1 := by
        rcases (show k = 0 ∨ k = 1 ∨ k = 2 by omega) with h | h | h
        · exact .inl h
        · exact .inr h
        · have h1 := HV.out.1.1
          rw [h] at h1
          have h1 : v = u / 100 := h1
          omega
      have hS2 : txtB [UInt8.ofNat (48 + v % 10)] ++ S = txtB (decLow u (k + 1)) := by
        rw [HV.out.2, txtB_app, HV.out.1.1]
        rcases hkk with rfl | rfl
        · simp [decLow]
        · simp [decLow]
      have HQ := Lib.hid (show v / 10 = u / 10 ^ (k + 1) by rw [HV.out.1.1, Nat.div_div_eq_div_mul, Nat.pow_succ])
      have hSz : (txtB [UInt8.ofNat (48 + v % 10)] ++ S).size ≤ 2 := by
        rw [hS2, txtB_size]
        rcases hkk with rfl | rfl <;> simp [decLow]
      have hk1 : k + 1 ≤ 2 := by omega
      clear hkk
      generalize hd : v % 10 = d at *
      have hc2 : ¬ 9223372036854775807 < (txtB [UInt8.ofNat (48 + d)]).size + S.size := by rw [txtB_size]; simp; omega
      generalize txtB [UInt8.ofNat (48 + d)] = Z at *
      have HS2 := Lib.hid (And.intro hS2 hSz)
      clear hS2 hSz
      generalize hvq : v / 10 = q at *
      go_wp2_with fail
      refine ⟨⟨k + 1, q, _, hk1, rfl, rfl, Lib.hid ⟨⟨HQ.out, .inr ?_⟩, HS2.out.1⟩, HS2.out.2, by omega, trivial⟩, by simp [intOf]; omega⟩
      rw [Nat.add_sub_cancel, ← HV.out.1.1]
      exact h10
    case neg =>
      have h9 : ¬ (9 : Int) < (v : Int) := by omega
      have hcut := decC_cut' (show v < 10 by omega)
      have hS2 : txtB [UInt8.ofNat (48 + v)] ++ S = txtB (dec3 u) := by
        rw [HV.out.2, txtB_app]
        obtain ⟨⟨h1, h2⟩, _⟩ := HV.out
        rcases (show k = 0 ∨ k = 1 ∨ k = 2 by omega) with h | h | h
        · subst h
          have h1 : v = u := by rw [h1]; simp
          unfold dec3
          rw [if_pos (by omega), h1]
          rfl
        · subst h
          have h1 : v = u / 10 := h1
          have h2 : 10 ≤ u := by simpa using h2
          unfold dec3
          rw [if_neg (by omega), if_pos (by omega), h1]
          rfl
        · subst h
          have h1 : v = u / 100 := h1
          have h2 : 10 ≤ u / 10 := by simpa using h2
          unfold dec3
          rw [if_neg (by omega), if_neg (by omega), h1]
          rfl
      have hc2 : ¬ 9223372036854775807 < (txtB [UInt8.ofNat (48 + v)]).size + S.size := by rw [txtB_size]; simp; omega
      generalize txtB [UInt8.ofNat (48 + v)] = Z at *
      have HS2 := Lib.hid hS2
      clear hS2
      go_wp2_with fail
      go_returns
      exact ⟨by rw [← HS2.out]; rfl, rfl⟩
set_option maxRecDepth 100000 in
set_option maxHeartbeats 1000000 in
theorem rfourtext_any (n : Nat) (hn : n < 4294967296) (w : World) : Calls Tryz.prog 16 #[.int .i64 (n : Int)] w fun e w' => e = .returned (.string (txtB (text4 n))) ∧ w' = w := by
  have q1 : Int.tdiv (n : Int) 16777216 = ((n / 16777216 : Nat) : Int) := by rw [Int.tdiv_eq_ediv_of_nonneg (by omega)]; omega
  have q2 : Int.tdiv (n : Int) 65536 = ((n / 65536 : Nat) : Int) := by rw [Int.tdiv_eq_ediv_of_nonneg (by omega)]; omega
  have q3 : Int.tdiv (n : Int) 256 = ((n / 256 : Nat) : Int) := by rw [Int.tdiv_eq_ediv_of_nonneg (by omega)]; omega
  have m2 : Int.tmod ((n / 65536 : Nat) : Int) 256 = ((oct n 1 : Nat) : Int) := by
    rw [Int.tmod_eq_emod_of_nonneg (by omega)]
    show _ = ((n / 65536 % 256 : Nat) : Int)
    omega
  have m3 : Int.tmod ((n / 256 : Nat) : Int) 256 = ((oct n 2 : Nat) : Int) := by
    rw [Int.tmod_eq_emod_of_nonneg (by omega)]
    show _ = ((n / 256 % 256 : Nat) : Int)
    omega
  have m4 : Int.tmod (n : Int) 256 = ((oct n 3 : Nat) : Int) := by
    rw [Int.tmod_eq_emod_of_nonneg (by omega)]
    show _ = ((n / 1 % 256 : Nat) : Int)
    rw [Nat.div_one]
    omega
  have m1 : n / 16777216 = oct n 0 := by
    show n / 16777216 = n / 16777216 % 256
    omega
  rw [m1] at q1
  have ht : txtB (dec3 (oct n 0)) ++ ⟨#[46]⟩ ++ txtB (dec3 (oct n 1)) ++ ⟨#[46]⟩ ++ txtB (dec3 (oct n 2)) ++ ⟨#[46]⟩ ++ txtB (dec3 (oct n 3)) = txtB (text4 n) := by
    rw [show (⟨#[46]⟩ : ByteArray) = txtB [46] from rfl, txtB_app, txtB_app, txtB_app, txtB_app, txtB_app, txtB_app]
    unfold text4
    rw [Lib.join_cons]
    simp [Lib.joinTail]
  have z (k : Nat) : (txtB (dec3 (oct n k))).size ≤ 3 := by rw [txtB_size]; exact (dec3_len _).2
  have z0 := z 0
  have z1 := z 1
  have z2 := z 2
  have z3 := z 3
  have d (k : Nat) : Calls Tryz.prog 29 #[.int .i64 ((oct n k : Nat) : Int)] w fun e w' => e = .returned (.string (txtB (dec3 (oct n k)))) ∧ w' = w := rdec_any _ (by have := oct_lt n k; omega) w
  have D := Lib.hid (And.intro (d 0) (And.intro (d 1) (And.intro (d 2) (d 3))))
  clear z d m1
  generalize hv2 : n / 65536 = v2 at *
  generalize hv3 : n / 256 = v3 at *
  generalize oct n 0 = o0 at *
  generalize oct n 1 = o1 at *
  generalize oct n 2 = o2 at *
  generalize oct n 3 = o3 at *
  generalize txtB (dec3 o0) = t0 at *
  generalize txtB (dec3 o1) = t1 at *
  generalize txtB (dec3 o2) = t2 at *
  generalize txtB (dec3 o3) = t3 at *
  have HT := Lib.hid ht
  have w1 : IntKind.i64.wrap (o0 : Int) = (o0 : Int) := by have := q1; exact IntWalk.i64_in _ (by rw [← q1, Int.tdiv_eq_ediv_of_nonneg (by omega)]; omega)
  have w2 : IntKind.i64.wrap (v2 : Int) = (v2 : Int) := IntWalk.i64_in _ (by omega)
  have w3 : IntKind.i64.wrap (v3 : Int) = (v3 : Int) := IntWalk.i64_in _ (by omega)
  clear ht
  go_enter Tryz.func16, Tryz.ntmps16
  go_wp2_with fail
  refine D.out.1.mono ?_
  rintro e w' ⟨rfl, rfl⟩
  have c1 : ¬ 9223372036854775807 < t0.size + 1 := by omega
  have s1 : (t0 ++ ⟨#[46]⟩ : ByteArray).size ≤ 4 := by rw [ByteArray.size_append]; show t0.size + 1 ≤ 4; omega
  obtain ⟨x1, h1⟩ : ∃ x1, t0 ++ ⟨#[46]⟩ = x1 := ⟨_, rfl⟩
  have H1 := Lib.hid h1
  rw [h1] at s1
  clear h1 c1
  go_wp2_with fail
  refine D.out.2.1.mono ?_
  rintro e w' ⟨rfl, rfl⟩
  have c1 : ¬ 9223372036854775807 < x1.size + t1.size := by omega
  have s2 : (x1 ++ t1).size ≤ 7 := by rw [ByteArray.size_append]; omega
  obtain ⟨x2, h2⟩ : ∃ x2, x1 ++ t1 = x2 := ⟨_, rfl⟩
  rw [h2] at s2
  have c2 : ¬ 9223372036854775807 < x2.size + 1 := by omega
  have s3 : (x2 ++ ⟨#[46]⟩ : ByteArray).size ≤ 8 := by rw [ByteArray.size_append]; show x2.size + 1 ≤ 8; omega
  obtain ⟨x3, h3⟩ : ∃ x3, x2 ++ ⟨#[46]⟩ = x3 := ⟨_, rfl⟩
  rw [h3] at s3
  have H2 := Lib.hid (And.intro h2 h3)
  go_wp2_with fail
  clear h2 h3 c1 c2
  refine D.out.2.2.1.mono ?_
  rintro e w' ⟨rfl, rfl⟩
  have c1 : ¬ 9223372036854775807 < x3.size + t2.size := by omega
  have s4 : (x3 ++ t2).size ≤ 11 := by rw [ByteArray.size_append]; omega
  obtain ⟨x4, h2⟩ : ∃ x4, x3 ++ t2 = x4 := ⟨_, rfl⟩
  rw [h2] at s4
  have c2 : ¬ 9223372036854775807 < x4.size + 1 := by omega
  have s5 : (x4 ++ ⟨#[46]⟩ : ByteArray).size ≤ 12 := by rw [ByteArray.size_append]; show x4.size + 1 ≤ 12; omega
  obtain ⟨x5, h3⟩ : ∃ x5, x4 ++ ⟨#[46]⟩ = x5 := ⟨_, rfl⟩
  rw [h3] at s5
  have H3 := Lib.hid (And.intro h2 h3)
  go_wp2_with fail
  clear h2 h3 c1 c2
  refine D.out.2.2.2.mono ?_
  rintro e w' ⟨rfl, rfl⟩
  have c1 : ¬ 9223372036854775807 < x5.size + t3.size := by omega
  go_wp2_with fail
  go_returns
  exact ⟨by rw [← HT.out, H1.out, H2.out.1, H2.out.2, H3.out.1, H3.out.2]; rfl, rfl⟩
end Go.Proofs.YtonjifkjammopaaGreatDoor
