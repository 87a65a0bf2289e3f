/- The rest of bytes, under one name. Conditions: as each lemma states them. -/
import Derived.Test.YtoaahiclmodcgaaMem
namespace Go.Proofs.Ytoaahiclmodcgaa
open Go.RowKit
theorem Try.elemBytesT : Try.prog.elem 41 = 5 := by kernel_rfl
theorem Try.sizeByteT : ∀ w : World, (sizeOf 5).run Try.prog w = .ok 1 w := fun w => by kernel_rfl
/-- x[k:]. -/
theorem slice_tail (a : Option Addr) (n c k : Nat) (i : Int) (hi : i = k) (hk : k ≤ n) (hnc : n ≤ c) (hn : a = none → c = 0) :
    ∃ AA : Option Addr, (∀ (w : World) (xs : List Int), Ints .u8 w a n xs → Ints .u8 w AA (n - k) (xs.drop k)) ∧ (AA = none → c - k = 0) ∧
      ∀ W : World, (Instr.slice 41 (.slice a n c) (some (.int .i64 i)) none none).run Try.prog W = .ok (.slice AA (n - k) (c - k)) W := by
  subst hi
  refine ⟨if c = k then a else a.map (·.add (k * 1)), fun w xs h => ?_, fun h => ?_, fun W => ?_⟩
  · by_cases hz : n - k = 0
    · exact ⟨by rw [List.length_drop, h.1], .inl hz⟩
    · obtain ⟨b, off, rfl, _, _⟩ := h.at (by omega)
      rw [Option.map_some, Addr.add_lit, Nat.mul_one]
      exact h.dropped k c hk hnc
  · cases a with
    | none => have := hn rfl; omega
    | some p =>
      by_cases hc : c = k
      · rw [if_pos hc] at h; cases h
      · rw [if_neg hc] at h; cases h
  · rw [run_slice_l W 41 a n c (by rw [Try.elemBytesT]; exact Try.underlying41) .i64 (k : Int) (by omega) (by omega), Try.elemBytesT, Try.sizeByteT]
    simp only [Result.andThen_ok, sliced, Int.toNat_natCast]
/-- x[:k]. -/
theorem slice_head (b off n c k : Nat) (i : Int) (hi : i = k) (hk : k ≤ c) :
    ∀ W : World, (Instr.slice 41 (.slice (some ⟨b, off, none⟩) n c) none (some (.int .i64 i)) none).run Try.prog W = .ok (.slice (some ⟨b, off, none⟩) k c) W := by
  subst hi
  intro W
  rw [run_slice_h W 41 (some ⟨b, off, none⟩) n c (by rw [Try.elemBytesT]; exact Try.underlying41) .i64 (k : Int) (by omega) (by omega), Try.elemBytesT, Try.sizeByteT]
  simp only [Result.andThen_ok, sliced, Int.toNat_natCast, Nat.sub_zero, Nat.zero_mul, Option.map_some, Addr.add_lit, Nat.add_zero]
  by_cases hc : c = 0
  · rw [if_pos hc]
  · rw [if_neg hc]
theorem Ints.front {k : IntKind} {w : World} {a : Option Addr} {n : Nat} {xs : List Int} (h : Ints k w a n xs) (m : Nat) (hm : m ≤ n) : Ints k w a m (xs.take m) := by
  refine ⟨by rw [List.length_take, h.1]; omega, ?_⟩
  rcases h.2 with h0 | ⟨b, off, rfl, hc⟩
  · exact .inl (by omega)
  · refine .inr ⟨b, off, rfl, fun i hi => ?_⟩
    rw [hc i (by omega)]
    simp [List.getD, hi]
end Go.Proofs.Ytoaahiclmodcgaa
