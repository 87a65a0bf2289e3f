/- addr.In: are the first bits of two addresses the same. Conditions: as each theorem states them. -/
import Derived.Test.YtonjifkjammopaaGreatDoorErv
import Derived.Test.YtonjifkjammopaaGreatDoorSixS
import Derived.Test.YtonjifkjammopaaGreatDoorStore
import Derived.Deep.DeepCutAuto
import Derived.Deep.QuietTactic
import Derived.BigQuiet
namespace Go.Proofs.YtonjifkjammopaaGreatDoor
open Go.RowKit
theorem xor_i64 (a b : Nat) (ha : a < 4611686018427387904) (hb : b < 4611686018427387904) : bits .xor .i64 (a : Int) (b : Int) = ((a ^^^ b : Nat) : Int) := by
  have hx : a ^^^ b < 2 ^ 62 := Nat.xor_lt_two_pow ha hb
  have ha' : a % 2 ^ IntKind.i64.bits = a := Nat.mod_eq_of_lt (Nat.lt_trans ha (by decide))
  have hb' : b % 2 ^ IntKind.i64.bits = b := Nat.mod_eq_of_lt (Nat.lt_trans hb (by decide))
  simp only [bits, BitVec.ofInt_natCast, BitVec.toNat_xor, BitVec.toNat_ofNat, ha', hb']
  exact wraps_i64 _ (by omega) (by exact_mod_cast hx)
/-- A bit of two numbers of 16 bits, compared. -/
theorem bit_same (x y : Int) (j : Nat) (hx : 0 ≤ x ∧ x ≤ 65535) (hy : 0 ≤ y ∧ y ≤ 65535) :
    ∃ z : Int, bits .xor .i64 x y = z ∧ 0 ≤ z ∧ z < 65536 ∧ bits .and .i64 (z / 2 ^ j) 1 = if x.toNat.testBit j = y.toNat.testBit j then 0 else 1 := by
  obtain ⟨a, rfl⟩ := Int.eq_ofNat_of_zero_le hx.1
  obtain ⟨b, rfl⟩ := Int.eq_ofNat_of_zero_le hy.1
  have hz : a ^^^ b < 2 ^ 16 := Nat.xor_lt_two_pow (by omega) (by omega)
  refine ⟨((a ^^^ b : Nat) : Int), xor_i64 a b (by omega) (by omega), by omega, by omega, ?_⟩
  have hd : (((a ^^^ b : Nat) : Int)) / 2 ^ j = (((a ^^^ b) / 2 ^ j : Nat) : Int) := by push_cast; rfl
  have hle : (a ^^^ b) / 2 ^ j ≤ a ^^^ b := Nat.div_le_self _ _
  rw [hd, and1 (Int.natCast_nonneg _) (by omega)]
  have ht : (a ^^^ b).testBit j = decide ((a ^^^ b) / 2 ^ j % 2 = 1) := Nat.testBit_eq_decide_div_mod_eq
  rw [Nat.testBit_xor] at ht
  rw [Int.toNat_natCast, Int.toNat_natCast]
  have hm : (((a ^^^ b) / 2 ^ j : Nat) : Int) % 2 = (((a ^^^ b) / 2 ^ j % 2 : Nat) : Int) := by push_cast; rfl
  rw [hm]
  have hq2 : (a ^^^ b) / 2 ^ j % 2 < 2 := Nat.mod_lt _ (by decide)
  generalize (a ^^^ b) / 2 ^ j % 2 = q at ht hq2 ⊢
  cases ha : a.testBit j <;> cases hb : b.testBit j <;> rw [ha, hb] at ht <;> simp at ht ⊢ <;> omega
namespace Pl
def bitAt (s : Six) (i : Nat) : Bool := (s.l.getD (i / 16) 0).toNat.testBit (15 - i % 16)
def inB (a p : Six) (n : Nat) : Bool := (List.range n).all fun i => bitAt a i == bitAt p i
theorem inB_iff {a p : Six} {n : Nat} : inB a p n = true ↔ ∀ i, i < n → bitAt a i = bitAt p i := by simp [inB]
/-- What is wrong with a question of bits. -/
def inErr (a p : Six) (n : Int) : Int := if okS a = true ∧ okS p = true ∧ 0 ≤ n ∧ n ≤ 128 then 0 else 1
def inVal (a p : Six) (n : Int) : Bool := decide (inErr a p n = 0) && inB a p n.toNat
end Pl
theorem idx2 (s t : Six) (w : World) : (Instr.index 57 (.agg #[.int .i64 s.x0, .int .i64 s.x1, .int .i64 s.x2, .int .i64 s.x3, .int .i64 s.x4, .int .i64 s.x5, .int .i64 s.x6, .int .i64 s.x7, .int .i64 t.x0, .int .i64 t.x1, .int .i64 t.x2, .int .i64 t.x3, .int .i64 t.x4, .int .i64 t.x5, .int .i64 t.x6, .int .i64 t.x7]) (.int .i64 0)).run Tryz.prog w = .ok (.agg s.cells) w ∧ (Instr.index 57 (.agg #[.int .i64 s.x0, .int .i64 s.x1, .int .i64 s.x2, .int .i64 s.x3, .int .i64 s.x4, .int .i64 s.x5, .int .i64 s.x6, .int .i64 s.x7, .int .i64 t.x0, .int .i64 t.x1, .int .i64 t.x2, .int .i64 t.x3, .int .i64 t.x4, .int .i64 t.x5, .int .i64 t.x6, .int .i64 t.x7]) (.int .i64 1)).run Tryz.prog w = .ok (.agg t.cells) w := by
  constructor
  · simp [Instr.index, asIntOf, run_underlying Tryz.underlying57, part, isAgg, run_underlying Tryz.underlying23, Six.cells]
  · simp [Instr.index, asIntOf, run_underlying Tryz.underlying57, part, isAgg, run_underlying Tryz.underlying23, Six.cells]
set_option maxRecDepth 100000 in
set_option maxHeartbeats 2000000 in
theorem in_yes (a p : Six) (n : Int) (w : World) (ha : okS a = true) (hp : okS p = true) (h0 : 0 ≤ n) (h1 : n ≤ 128) :
    Calls Tryz.prog 11 #[a.v, p.v, .int .i64 n] w fun e w' => e = .returned (.tuple #[.bool (Pl.inB a p n.toNat), .nilIface]) ∧ Ext w w' := by
  obtain ⟨N, rfl⟩ := Int.eq_ofNat_of_zero_le h0
  rw [Int.toNat_natCast]
  have K0 := (Blk.new w 23 a.cells).alloc (.cells p.cells 23)
  have K1 := Blk.at (n := w.heap.size + 1) (w.alloc (.cells a.cells 23)) 23 p.cells (by simp)
  have E0 : Ext w ((w.alloc (.cells a.cells 23)).alloc (.cells p.cells 23)) := ((Ext.refl w).alloc _).alloc _
  have la : (Instr.loadAt 23 (.pointer (some ⟨w.heap.size, 0, none⟩))).run Tryz.prog ((w.alloc (.cells a.cells 23)).alloc (.cells p.cells 23)) = .ok (.agg #[.int .i64 a.x0, .int .i64 a.x1, .int .i64 a.x2, .int .i64 a.x3, .int .i64 a.x4, .int .i64 a.x5, .int .i64 a.x6, .int .i64 a.x7]) ((w.alloc (.cells a.cells 23)).alloc (.cells p.cells 23)) := K0.six0
  have lp : (Instr.loadAt 23 (.pointer (some ⟨w.heap.size + 1, 0, none⟩))).run Tryz.prog ((w.alloc (.cells a.cells 23)).alloc (.cells p.cells 23)) = .ok (.agg #[.int .i64 p.x0, .int .i64 p.x1, .int .i64 p.x2, .int .i64 p.x3, .int .i64 p.x4, .int .i64 p.x5, .int .i64 p.x6, .int .i64 p.x7]) ((w.alloc (.cells a.cells 23)).alloc (.cells p.cells 23)) := K1.six0
  go_enter Tryz.func11, Tryz.ntmps11
  go_upto_region 1 with (fail)
  refine at_worldE (fun W => Ext w W ∧ Blk W w.heap.size 23 a.cells ∧ Blk W (w.heap.size + 1) 23 p.cells) ⟨E0, K0, K1⟩ ?_
  clear la lp E0 K0 K1
  rintro W1 ⟨E1, K0, K1⟩
  have la : (Instr.loadAt 23 (.pointer (some ⟨w.heap.size, 0, none⟩))).run Tryz.prog W1 = .ok (.agg #[.int .i64 a.x0, .int .i64 a.x1, .int .i64 a.x2, .int .i64 a.x3, .int .i64 a.x4, .int .i64 a.x5, .int .i64 a.x6, .int .i64 a.x7]) W1 := K0.six0
  have lp : (Instr.loadAt 23 (.pointer (some ⟨w.heap.size + 1, 0, none⟩))).run Tryz.prog W1 = .ok (.agg #[.int .i64 p.x0, .int .i64 p.x1, .int .i64 p.x2, .int .i64 p.x3, .int .i64 p.x4, .int .i64 p.x5, .int .i64 p.x6, .int .i64 p.x7]) W1 := K1.six0
  go_wp2_with ((apply load_by rfl _ _ rfl _ rfl); (focus (with_reducible assumption)))
  clear la lp
  go_loopw [15] (fun i wr => ∃ k : Nat, k ≤ 2 ∧ i = .int .i64 k ∧ Ext w wr ∧ Blk wr w.heap.size 23 a.cells ∧ Blk wr (w.heap.size + 1) 23 p.cells) (fun i _ => 2 - (intOf i).toNat)
  case atStart => exact ⟨0, by omega, rfl, E1, K0, K1⟩
  case round =>
    clear E1 K0 K1
    obtain ⟨k, hk, rfl, E2, K0, K1⟩ := hrel
    by_cases hlt : k < 2
    · obtain ⟨x, hx, hokx⟩ : ∃ x : Six, (∀ W : World, (Instr.index 57 (.agg #[.int .i64 a.x0, .int .i64 a.x1, .int .i64 a.x2, .int .i64 a.x3, .int .i64 a.x4, .int .i64 a.x5, .int .i64 a.x6, .int .i64 a.x7, .int .i64 p.x0, .int .i64 p.x1, .int .i64 p.x2, .int .i64 p.x3, .int .i64 p.x4, .int .i64 p.x5, .int .i64 p.x6, .int .i64 p.x7]) (.int .i64 (k : Int))).run Tryz.prog W = .ok (.agg x.cells) W) ∧ okS x = true := by
        have h : k = 0 ∨ k = 1 := by omega
        rcases h with rfl | rfl
        · exact ⟨a, fun W => (idx2 a p W).1, ha⟩
        · exact ⟨p, fun W => (idx2 a p W).2, hp⟩
      have kN := Blk.new wr 23 zc6
      have sN : (Instr.storeAt 23 (.pointer (some ⟨wr.heap.size, 0, none⟩)) (.agg x.cells)).run Tryz.prog (wr.alloc (.cells zc6 23)) = .ok () ((wr.alloc (.cells zc6 23)).setRow wr.heap.size x.cells) := kN.store rfl Tryz.size6 (by simp [Six.cells, Value.oneCell'])
      have lN := (kN.row x.cells).six0
      have E3 : Ext w ((wr.alloc (.cells zc6 23)).setRow wr.heap.size x.cells) := (E2.alloc _).row E2.size _
      have K3 := (K0.alloc (.cells zc6 23)).farRow (k := wr.heap.size) (by have := K0.lt; omega) x.cells
      have K4 := (K1.alloc (.cells zc6 23)).farRow (k := wr.heap.size) (by have := K1.lt; omega) x.cells
      clear kN E2 K0 K1
      go_wp2_with (first | ((apply store_by rfl _ _ _ rfl _ rfl); (focus (with_reducible assumption)); (focus rfl)) | ((apply load_by rfl _ _ rfl _ rfl); (focus (with_reducible assumption))))
      refine (check6_yes x _ hokx).mono ?_
      rintro e W2 ⟨rfl, q2⟩
      have E5 := E3.trans q2
      have K5 := K3.ext q2
      have K6 := K4.ext q2
      clear sN lN E3 K3 K4 q2
      go_wp2_with fail
      go_roundw
      case rel => exact ⟨k + 1, by omega, by go_num, E5, K5, K6⟩
      case measure => simp [intOf]; omega
    · obtain rfl : k = 2 := by omega
      go_wp2_with fail
      go_loopw [32] (fun i wr => ∃ k : Nat, k ≤ N ∧ i = .int .i64 k ∧ (Ext w wr ∧ Blk wr w.heap.size 23 a.cells ∧ Blk wr (w.heap.size + 1) 23 p.cells) ∧ ∀ j, j < k → Pl.bitAt a j = Pl.bitAt p j) (fun i _ => N - (intOf i).toNat)
      case atStart => exact ⟨0, by omega, rfl, ⟨E2, K0, K1⟩, fun j h => by omega⟩
      case round =>
        clear E2 K0 K1
        obtain ⟨k, hkN, rfl, ⟨E2, K0, K1⟩, hbits⟩ := hrel
        have HB := Lib.hid hbits
        clear hbits
        by_cases hlt : k < N
        · have hlti : (k : Int) < (N : Int) := by omega
          obtain ⟨q, r, hkq, hr, hq⟩ : ∃ q r : Nat, k = 16 * q + r ∧ r < 16 ∧ q < 8 := ⟨k / 16, k % 16, by omega, by omega, by omega⟩
          have hk16 : k / 16 = q := by omega
          have hm16 : k % 16 = r := by omega
          have hquo : Int.tdiv (k : Int) 16 = (q : Int) := by rw [Int.tdiv_eq_ediv_of_nonneg (by omega)]; omega
          have hrem : Int.tmod (k : Int) 16 = (r : Int) := by rw [Int.tmod_eq_emod_of_nonneg (by omega)]; omega
          have hdiv : (k : Int) / 16 = (q : Int) := by omega
          have hmod : (k : Int) % 16 = (r : Int) := by omega
          have hwq : IntKind.i64.wrap (q : Int) = (q : Int) := IntWalk.i64_in _ (by omega)
          have hws : IntKind.i64.wrap (15 - (r : Int)) = ((15 - r : Nat) : Int) := by rw [show (15 : Int) - (r : Int) = ((15 - r : Nat) : Int) from by omega]; exact IntWalk.i64_in _ (by omega)
          have hq8 : (q : Int) < 8 := by omega
          have ca := K0.cells q
          have cp := K1.cells q
          rw [Six.cells_at a q hq] at ca
          rw [Six.cells_at p q hq] at cp
          have hA : Pl.bitAt a k = (a.l.getD q 0).toNat.testBit (15 - r) := by unfold Pl.bitAt; rw [hk16, hm16]
          have hP : Pl.bitAt p k = (p.l.getD q 0).toNat.testBit (15 - r) := by unfold Pl.bitAt; rw [hk16, hm16]
          have hwa := Six.Ok.at (s := a) ha q
          have hwp := Six.Ok.at (s := p) hp q
          generalize a.l.getD q 0 = x at *
          generalize p.l.getD q 0 = y at *
          obtain ⟨z, hxor, hz0, hz1, hand⟩ := bit_same x y (15 - r) hwa hwp
          have hj : 15 - r ≤ 15 := by omega
          generalize 15 - r = j at *
          have HA := Lib.hid hA
          have HP := Lib.hid hP
          have HQ := Lib.hid hkq
          clear hA hP hkq hk16 hm16
          by_cases hb : x.toNat.testBit j = y.toNat.testBit j
          · rw [if_pos hb] at hand
            have HBB := Lib.hid hb
            clear hb
            go_wp2_with fail
            go_quiet (fail)
            go_wp2_with fail
            go_roundw
            case rel =>
              refine ⟨k + 1, by omega, by go_num, ⟨E2.drewN nq, K0.drewN nq, K1.drewN nq⟩, fun i hi => ?_⟩
              by_cases hik : i = k
              · subst hik; rw [HA.out, HP.out]; exact HBB.out
              · exact HB.out i (by omega)
            case measure => simp [intOf]; omega
          · rw [if_neg hb] at hand
            have hno : Pl.inB a p N = false := by
              cases h : Pl.inB a p N
              · rfl
              · exact absurd ((Pl.inB_iff.1 h) k hlt) (by rw [HA.out, HP.out]; exact hb)
            have HNO := Lib.hid hno
            clear hno hb
            go_wp2_with fail
            go_quiet (fail)
            go_wp2_with fail
            go_ret2
            exact ⟨by rw [HNO.out]; rfl, E2.drewN nq⟩
        · obtain rfl : k = N := by omega
          have hin : Pl.inB a p k = true := Pl.inB_iff.2 HB.out
          have HIN := Lib.hid hin
          clear hin
          go_wp2_with fail
          go_ret2
          exact ⟨by rw [HIN.out]; rfl, E2⟩
set_option maxRecDepth 100000 in
set_option maxHeartbeats 2000000 in
theorem in_no (a p : Six) (n : Int) (w : World) (h : ¬ (okS a = true ∧ okS p = true ∧ 0 ≤ n ∧ n ≤ 128)) :
    Calls Tryz.prog 11 #[a.v, p.v, .int .i64 n] w fun e w' => e = .returned (.tuple #[.bool false, errv 1]) ∧ Ext w w' := by
  have K0 := (Blk.new w 23 a.cells).alloc (.cells p.cells 23)
  have K1 := Blk.at (n := w.heap.size + 1) (w.alloc (.cells a.cells 23)) 23 p.cells (by simp)
  have E0 : Ext w ((w.alloc (.cells a.cells 23)).alloc (.cells p.cells 23)) := ((Ext.refl w).alloc _).alloc _
  have H := Lib.hid h
  clear h
  go_enter Tryz.func11, Tryz.ntmps11
  go_upto_region 1 with (fail)
  refine at_worldE (fun W => Ext w W ∧ Blk W w.heap.size 23 a.cells ∧ Blk W (w.heap.size + 1) 23 p.cells) ⟨E0, K0, K1⟩ ?_
  clear E0 K0 K1
  rintro W1 ⟨E1, K0, K1⟩
  have la : (Instr.loadAt 23 (.pointer (some ⟨w.heap.size, 0, none⟩))).run Tryz.prog W1 = .ok (.agg #[.int .i64 a.x0, .int .i64 a.x1, .int .i64 a.x2, .int .i64 a.x3, .int .i64 a.x4, .int .i64 a.x5, .int .i64 a.x6, .int .i64 a.x7]) W1 := K0.six0
  have lp : (Instr.loadAt 23 (.pointer (some ⟨w.heap.size + 1, 0, none⟩))).run Tryz.prog W1 = .ok (.agg #[.int .i64 p.x0, .int .i64 p.x1, .int .i64 p.x2, .int .i64 p.x3, .int .i64 p.x4, .int .i64 p.x5, .int .i64 p.x6, .int .i64 p.x7]) W1 := K1.six0
  go_wp2_with ((apply load_by rfl _ _ rfl _ rfl); (focus (with_reducible assumption)))
  clear la lp K0 K1
  go_loopw [15] (fun i wr => ∃ k : Nat, k ≤ 2 ∧ i = .int .i64 k ∧ Ext w wr ∧ (1 ≤ k → okS a = true) ∧ (2 ≤ k → okS p = true)) (fun i _ => 2 - (intOf i).toNat)
  case atStart => exact ⟨0, by omega, rfl, E1, by omega, by omega⟩
  case round =>
    clear E1
    obtain ⟨k, hk, rfl, E2, ha, hp⟩ := hrel
    have HA := Lib.hid ha
    have HP := Lib.hid hp
    clear ha hp
    by_cases hlt : k < 2
    · obtain ⟨x, hx, hkx⟩ : ∃ x : Six, (∀ W : World, (Instr.index 57 (.agg #[.int .i64 a.x0, .int .i64 a.x1, .int .i64 a.x2, .int .i64 a.x3, .int .i64 a.x4, .int .i64 a.x5, .int .i64 a.x6, .int .i64 a.x7, .int .i64 p.x0, .int .i64 p.x1, .int .i64 p.x2, .int .i64 p.x3, .int .i64 p.x4, .int .i64 p.x5, .int .i64 p.x6, .int .i64 p.x7]) (.int .i64 (k : Int))).run Tryz.prog W = .ok (.agg x.cells) W) ∧ (k = 0 ∧ x = a ∨ k = 1 ∧ x = p) := by
        have h : k = 0 ∨ k = 1 := by omega
        rcases h with rfl | rfl
        · exact ⟨a, fun W => (idx2 a p W).1, .inl ⟨rfl, rfl⟩⟩
        · exact ⟨p, fun W => (idx2 a p W).2, .inr ⟨rfl, rfl⟩⟩
      have HX := Lib.hid hkx
      clear hkx
      have kN := Blk.new wr 23 zc6
      have sN : (Instr.storeAt 23 (.pointer (some ⟨wr.heap.size, 0, none⟩)) (.agg x.cells)).run Tryz.prog (wr.alloc (.cells zc6 23)) = .ok () ((wr.alloc (.cells zc6 23)).setRow wr.heap.size x.cells) := kN.store rfl Tryz.size6 (by simp [Six.cells, Value.oneCell'])
      have lN := (kN.row x.cells).six0
      have E3 : Ext w ((wr.alloc (.cells zc6 23)).setRow wr.heap.size x.cells) := (E2.alloc _).row E2.size _
      clear kN E2
      by_cases hokx : okS x = true
      · have HO := Lib.hid hokx
        clear hokx
        go_wp2_with (first | ((apply store_by rfl _ _ _ rfl _ rfl); (focus (with_reducible assumption)); (focus rfl)) | ((apply load_by rfl _ _ rfl _ rfl); (focus (with_reducible assumption))))
        refine (check6_yes x _ HO.out).mono ?_
        rintro e W2 ⟨rfl, q2⟩
        have E5 := E3.trans q2
        clear sN lN E3 q2
        go_wp2_with fail
        go_roundw
        case rel =>
          refine ⟨k + 1, by omega, by go_num, E5, fun _ => ?_, fun h2 => ?_⟩
          · rcases HX.out with ⟨_, rfl⟩ | ⟨h1, _⟩
            · exact HO.out
            · exact HA.out (by omega)
          · rcases HX.out with ⟨h0, _⟩ | ⟨_, rfl⟩
            · omega
            · exact HO.out
        case measure => simp [intOf]; omega
      · have HO := Lib.hid (show okS x = false by simpa using hokx)
        clear hokx
        go_wp2_with (first | ((apply store_by rfl _ _ _ rfl _ rfl); (focus (with_reducible assumption)); (focus rfl)) | ((apply load_by rfl _ _ rfl _ rfl); (focus (with_reducible assumption))))
        refine (check6_no x _ HO.out).mono ?_
        rintro e W2 ⟨rfl, q2⟩
        have E5 := E3.trans q2
        clear sN lN E3 q2
        unfold errv
        go_wp2_with fail
        go_ret2
        exact ⟨rfl, E5⟩
    · obtain rfl : k = 2 := by omega
      have ha := HA.out (by omega)
      have hp := HP.out (by omega)
      have hn : ¬ (0 ≤ n ∧ n ≤ 128) := fun h => H.out ⟨ha, hp, h.1, h.2⟩
      clear HA HP ha hp
      by_cases h0 : 0 ≤ n
      · have h1 : ¬ n ≤ 128 := fun h => hn ⟨h0, h⟩
        clear hn
        go_wp2_with fail
        go_ret2
        exact ⟨rfl, E2⟩
      · clear hn
        go_wp2_with fail
        go_ret2
        exact ⟨rfl, E2⟩
theorem in_any (a p : Six) (n : Int) (w : World) :
    Calls Tryz.prog 11 #[a.v, p.v, .int .i64 n] w fun e w' => e = .returned (.tuple #[.bool (Pl.inVal a p n), erv (Pl.inErr a p n)]) ∧ Ext w w' := by
  by_cases h : okS a = true ∧ okS p = true ∧ 0 ≤ n ∧ n ≤ 128
  · have he : Pl.inErr a p n = 0 := by unfold Pl.inErr; rw [if_pos h]
    have hv : Pl.inVal a p n = Pl.inB a p n.toNat := by unfold Pl.inVal; rw [he]; simp
    rw [he, hv]
    exact in_yes a p n w h.1 h.2.1 h.2.2.1 h.2.2.2
  · have he : Pl.inErr a p n = 1 := by unfold Pl.inErr; rw [if_neg h]
    have hv : Pl.inVal a p n = false := by unfold Pl.inVal; rw [he]; simp
    rw [he, hv]
    exact in_no a p n w h
end Go.Proofs.YtonjifkjammopaaGreatDoor
