/- addr.In: are the first bits of two addresses the same. Conditions: as each theorem states them. -/
import Derived.Test.YtkjchddidpjjmaaDoorErv
import Derived.Test.YtkjchddidpjjmaaDoorSixS
import Derived.Test.YtkjchddidpjjmaaDoorStore
import Derived.Deep.DeepCutAuto
import Derived.Deep.QuietTactic
import Derived.BigQuiet
namespace Go.Proofs.YtkjchddidpjjmaaDoor
open Go.RowKit
theorem xor_i64 (a b : Nat) (ha : a < 4611686018427387904) (hb : b < 4611686018427387904) : bits .xor .i64 (a : Int) (b : Int) = ((a ^^^ b : Nat) : Int) := by
  have hx : a ^^^ b < 2 ^ 62 := Nat.xor_lt_two_pow ha hb
  have ha' : a % 2 ^ IntKind.i64.bits = a := Nat.mod_eq_of_lt (Nat.lt_trans ha (by decide))
  have hb' : b % 2 ^ IntKind.i64.bits = b := Nat.mod_eq_of_lt (Nat.lt_trans hb (by decide))
  simp only [bits, BitVec.ofInt_natCast, BitVec.toNat_xor, BitVec.toNat_ofNat, ha', hb']
  exact wraps_i64 _ (by omega) (by exact_mod_cast hx)
/-- A bit of two numbers of 16 bits, compared. -/
theorem bit_same (x y : Int) (j : Nat) (hx : 0 ≤ x ∧ x ≤ 65535) (hy : 0 ≤ y ∧ y ≤ 65535) :
    ∃ z : Int, bits .xor .i64 x y = z ∧ 0 ≤ z ∧ z < 65536 ∧ bits .and .i64 (z / 2 ^ j) 1 = if x.toNat.testBit j = y.toNat.testBit j then 0 else 1 := by
  obtain ⟨a, rfl⟩ := Int.eq_ofNat_of_zero_le hx.1
  obtain ⟨b, rfl⟩ := Int.eq_ofNat_of_zero_le hy.1
  have hz : a ^^^ b < 2 ^ 16 := Nat.xor_lt_two_pow (by omega) (by omega)
  refine ⟨((a ^^^ b : Nat) : Int), xor_i64 a b (by omega) (by omega), by omega, by omega, ?_⟩
  have hd : (((a ^^^ b : Nat) : Int)) / 2 ^ j = (((a ^^^ b) / 2 ^ j : Nat) : Int) := by push_cast; rfl
  have hle : (a ^^^ b) / 2 ^ j ≤ a ^^^ b := Nat.div_le_self _ _
  rw [hd, and1 (Int.natCast_nonneg _) (by omega)]
  have ht : (a ^^^ b).testBit j = decide ((a ^^^ b) / 2 ^ j % 2 = 1) := Nat.testBit_eq_decide_div_mod_eq
  rw [Nat.testBit_xor] at ht
  rw [Int.toNat_natCast, Int.toNat_natCast]
  have hm : (((a ^^^ b) / 2 ^ j : Nat) : Int) % 2 = (((a ^^^ b) / 2 ^ j % 2 : Nat) : Int) := by push_cast; rfl
  rw [hm]
  have hq2 : (a ^^^ b) / 2 ^ j % 2 < 2 := Nat.mod_lt _ (by decide)
  generalize (a ^^^ b) / 2 ^ j % 2 = q at ht hq2 ⊢
  cases ha : a.testBit j <;> cases hb : b.testBit j <;> rw [ha, hb] at ht <;> simp at ht ⊢ <;> omega
namespace Pl
def bitAt (s : Six) (i : Nat) : Bool := (s.l.getD (i / 16) 0).toNat.testBit (15 - i % 16)
def inB (a p : Six) (n : Nat) : Bool := (List.range n).all fun i => bitAt a i == bitAt p i
theorem inB_iff {a p : Six} {n : Nat} : inB a p n = true ↔ ∀ i, i < n → bitAt a i = bitAt p i := by simp [inB]
/-- What is wrong with a question of bits. -/
def inErr (a p : Six) (n : Int) : Int := if okS a = true ∧ okS p = true ∧ 0 ≤ n ∧ n ≤ 128 then 0 else 1
def inVal (a p : Six) (n : Int) : Bool := decide (inErr a p n = 0) && inB a p n.toNat
end Pl
end Go.Proofs.YtkjchddidpjjmaaDoor
