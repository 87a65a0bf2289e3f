/- The document's Starts: does an address begin with the first n bits of another? Conditions: as each lemma states them. -/
import Derived.Test.YtonjifkjammopaaGreatDoorIn
import Derived.Deep.DeepCutAuto
namespace Go.Proofs.YtonjifkjammopaaGreatDoor
open Go.RowKit
theorem top_same (x y : Int) (b : Nat) (hb : b ≤ 16) (hx : 0 ≤ x ∧ x ≤ 65535) (hy : 0 ≤ y ∧ y ≤ 65535) :
    x / 2 ^ (16 - b) = y / 2 ^ (16 - b) ↔ ∀ r, r < b → x.toNat.testBit (15 - r) = y.toNat.testBit (15 - r) := by
  obtain ⟨a, rfl⟩ := Int.eq_ofNat_of_zero_le hx.1
  obtain ⟨c, rfl⟩ := Int.eq_ofNat_of_zero_le hy.1
  rw [Int.toNat_natCast, Int.toNat_natCast]
  have e1 : ((a : Int) / 2 ^ (16 - b)) = ((a / 2 ^ (16 - b) : Nat) : Int) := by push_cast; rfl
  have e2 : ((c : Int) / 2 ^ (16 - b)) = ((c / 2 ^ (16 - b) : Nat) : Int) := by push_cast; rfl
  rw [e1, e2]
  have ha : a < 2 ^ 16 := by omega
  have hc : c < 2 ^ 16 := by omega
  constructor
  · intro h r hr
    have h : a / 2 ^ (16 - b) = c / 2 ^ (16 - b) := Int.ofNat.inj h
    have := congrArg (fun z => z.testBit (15 - r - (16 - b))) h
    simp only [Nat.testBit_div_two_pow] at this
    rwa [show 15 - r - (16 - b) + (16 - b) = 15 - r by omega] at this
  · intro h
    refine congrArg Int.ofNat (Nat.eq_of_testBit_eq fun i => ?_)
    rw [Nat.testBit_div_two_pow, Nat.testBit_div_two_pow]
    by_cases hi : i + (16 - b) < 16
    · have := h (15 - (i + (16 - b))) (by omega)
      rwa [show 15 - (15 - (i + (16 - b))) = i + (16 - b) by omega] at this
    · rw [Nat.testBit_lt_two_pow (Nat.lt_of_lt_of_le ha (Nat.pow_le_pow_right (by decide) (by omega))), Nat.testBit_lt_two_pow (Nat.lt_of_lt_of_le hc (Nat.pow_le_pow_right (by decide) (by omega)))]
/-- How many bits of a number are asked for. -/
def bitsOf (N k : Nat) : Nat := min 16 (N - 16 * k)
theorem bits_step {a p : Six} {N k : Nat} (h : ∀ i, i < N → i < 16 * k → Pl.bitAt a i = Pl.bitAt p i)
    (ht : ∀ r, r < bitsOf N k → (a.l.getD k 0).toNat.testBit (15 - r) = (p.l.getD k 0).toNat.testBit (15 - r)) : ∀ i, i < N → i < 16 * (k + 1) → Pl.bitAt a i = Pl.bitAt p i := fun i hi hik => by
  by_cases h16 : i < 16 * k
  · exact h i hi h16
  · have e1 : i / 16 = k := by omega
    have := ht (i % 16) (by unfold bitsOf; omega)
    unfold Pl.bitAt
    rw [e1]
    exact this
theorem bits_no {a p : Six} {N k : Nat} (h : Pl.inB a p N = true) : ∀ r, r < bitsOf N k → (a.l.getD k 0).toNat.testBit (15 - r) = (p.l.getD k 0).toNat.testBit (15 - r) := fun r hr => by
  have hr' : r < 16 ∧ 16 * k + r < N := by unfold bitsOf at hr; omega
  have := (Pl.inB_iff.1 h) (16 * k + r) hr'.2
  unfold Pl.bitAt at this
  rwa [show (16 * k + r) / 16 = k by omega, show (16 * k + r) % 16 = r by omega] at this
set_option maxRecDepth 100000 in
set_option maxHeartbeats 2000000 in
theorem starts_any (a p : Six) (N : Nat) (w : World) (ha : okS a = true) (hp : okS p = true) (hN : N ≤ 128) :
    Calls Tryz.prog 12 #[a.v, p.v, .int .i64 (N : Int)] w fun e w' => e = .returned (.bool (Pl.inB a p N)) ∧ Ext w w' := by
  have K0 := (Blk.new w 23 a.cells).alloc (.cells p.cells 23)
  have K1 := Blk.at (n := w.heap.size + 1) (w.alloc (.cells a.cells 23)) 23 p.cells (by simp)
  have E0 := ((Ext.refl w).alloc (.cells a.cells 23)).alloc (.cells p.cells 23)
  have HA := Lib.hid ha
  have HP := Lib.hid hp
  clear ha hp
  go_enter Tryz.func12, Tryz.ntmps12
  go_upto_region 1 with (fail)
  refine at_worldE (fun W => Ext w W ∧ Blk W w.heap.size 23 a.cells ∧ Blk W (w.heap.size + 1) 23 p.cells) ⟨E0, K0, K1⟩ ?_
  clear E0 K0 K1
  rintro W1 ⟨E1, K0, K1⟩
  go_wp2_with fail
  go_loopw [7] (fun i wr => ∃ k : Nat, k ≤ 8 ∧ i = .int .i64 (k : Int) ∧ (Ext w wr ∧ Blk wr w.heap.size 23 a.cells ∧ Blk wr (w.heap.size + 1) 23 p.cells) ∧ ∀ i, i < N → i < 16 * k → Pl.bitAt a i = Pl.bitAt p i) (fun i _ => 8 - (intOf i).toNat)
  case atStart => exact ⟨0, by omega, rfl, ⟨E1, K0, K1⟩, fun i _ h => by omega⟩
  case round =>
    clear E1 K0 K1
    obtain ⟨k, hk, rfl, ⟨Er, K0, K1⟩, hb⟩ := hrel
    have HB := Lib.hid hb
    have HE := Lib.hid Er
    have H0 := Lib.hid K0
    have H1 := Lib.hid K1
    clear hb Er
    by_cases hlt : k < 8
    case neg =>
      obtain rfl : k = 8 := by omega
      have hin := Lib.hid (Pl.inB_iff.2 fun i hi => HB.out i hi (by omega))
      clear K0 K1
      go_wp2_with fail
      go_returns
      exact ⟨by rw [hin.out]; rfl, HE.out⟩
    have hlt' : (k : Int) < 8 := by omega
    have w1 : IntKind.i64.wrap (16 * (k : Int)) = 16 * (k : Int) := IntWalk.i64_in _ (by omega)
    have w2 : IntKind.i64.wrap ((N : Int) - 16 * (k : Int)) = (N : Int) - 16 * (k : Int) := IntWalk.i64_in _ (by omega)
    have wk : IntKind.i64.wrap ((k : Int) + 1) = (k : Int) + 1 := IntWalk.i64_in _ (by omega)
    have hor : (N : Int) - 16 * (k : Int) < 0 ∨ ¬ (N : Int) - 16 * (k : Int) < 0 := by omega
    clear K0 K1
    go_upto_if 18 with (fail)
    go_cut [8] (fun v wc => wc = wr ∧ v = .int .i64 ((N - 16 * k : Nat) : Int))
    case first =>
      rcases hor with h | h
      · go_wp2_with fail
        go_meet
        exact ⟨rfl, by rw [show N - 16 * k = 0 by omega]; rfl⟩
      · go_wp2_with fail
        go_meet
        exact ⟨rfl, by rw [show ((N - 16 * k : Nat) : Int) = (N : Int) - 16 * (k : Int) by omega]⟩
    obtain ⟨rfl, rfl⟩ := hcut
    have hor2 : 16 < ((N - 16 * k : Nat) : Int) ∨ ¬ 16 < ((N - 16 * k : Nat) : Int) := by omega
    generalize hM : N - 16 * k = M at *
    go_upto_if 20 with (fail)
    go_cut [8] (fun v w2 => w2 = wc ∧ v = .int .i64 ((bitsOf N k : Nat) : Int))
    case first =>
      rcases hor2 with h | h
      · go_wp2_with fail
        go_meet
        exact ⟨rfl, by rw [show bitsOf N k = 16 by unfold bitsOf; omega]; rfl⟩
      · go_wp2_with fail
        go_meet
        exact ⟨rfl, by rw [show bitsOf N k = M by unfold bitsOf; omega]⟩
    obtain ⟨rfl, rfl⟩ := hcut
    have hb16 : bitsOf N k ≤ 16 := by unfold bitsOf; omega
    obtain ⟨b, hbe⟩ : ∃ b, bitsOf N k = b := ⟨_, rfl⟩
    have ca := H0.out.cells k
    have cp := H1.out.cells k
    rw [Six.cells_at a k hlt] at ca
    rw [Six.cells_at p k hlt] at cp
    have hwa := Six.Ok.at (s := a) HA.out k
    have hwp := Six.Ok.at (s := p) HP.out k
    have hts := top_same (a.l.getD k 0) (p.l.getD k 0) b (by omega) hwa hwp
    have hst := bits_step HB.out
    have hno := fun h => bits_no (a := a) (p := p) (N := N) (k := k) h
    rw [hbe] at hst hno hb16 ⊢
    generalize a.l.getD k 0 = x at *
    generalize p.l.getD k 0 = y at *
    have hws : IntKind.i64.wrap (16 - (b : Int)) = ((16 - b : Nat) : Int) := by rw [show (16 : Int) - (b : Int) = ((16 - b : Nat) : Int) from by omega]; exact IntWalk.i64_in _ (by omega)
    have hwu : IntKind.u64.wrap ((16 - b : Nat) : Int) = ((16 - b : Nat) : Int) := by rw [IntKind.wrap_u64]; omega
    have hj : 16 - b ≤ 16 := by omega
    have HTS := Lib.hid hts
    have HST := Lib.hid hst
    have HNO := Lib.hid hno
    generalize 16 - b = j at *
    clear hts hst hno hbe hor hor2 hM hb16
    by_cases hxy : x / 2 ^ j = y / 2 ^ j
    · have HXY := Lib.hid hxy
      have hne : (x / 2 ^ j != y / 2 ^ j) = false := by simp [hxy]
      clear hxy
      go_wp2_with fail
      go_quiet (fail)
      go_wp2_with fail
      go_roundw
      case rel => exact ⟨k + 1, by omega, by go_num, ⟨HE.out.drewN _, H0.out.drewN _, H1.out.drewN _⟩, HST.out (HTS.out.1 HXY.out)⟩
      case measure => simp [intOf] <;> omega
    · have hin : Pl.inB a p N = false := by
        cases h : Pl.inB a p N
        · rfl
        · exact absurd (HTS.out.2 (HNO.out h)) hxy
      have HIN := Lib.hid hin
      have hne : (x / 2 ^ j != y / 2 ^ j) = true := by simp [hxy]
      clear hxy hin
      go_wp2_with fail
      go_quiet (fail)
      go_wp2_with fail
      go_returns
      exact ⟨by rw [HIN.out]; rfl, HE.out.drewN _⟩
end Go.Proofs.YtonjifkjammopaaGreatDoor
