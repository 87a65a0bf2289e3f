/- Two addresses, compared. Conditions: as each lemma states them. -/
import Derived.Test.YtonjifkjammopaaGreatDoorSix
import Derived.Laws.StructEq
namespace Go.Proofs.YtonjifkjammopaaGreatDoor
open Go.RowKit
theorem Tryz.sizeInt : ∀ w : World, (sizeOf 3).run Tryz.prog w = .ok 1 w := fun w => by kernel_rfl
/-- As a test of the numbers. -/
def sixEq (s t : Six) : Bool := (List.range 8).all fun i => s.l.getD i 0 == t.l.getD i 0
theorem sixEq_self (s : Six) : sixEq s s = true := by unfold sixEq; simp
theorem sixEq_iff {s t : Six} : sixEq s t = true ↔ s = t := by
  constructor
  · intro h
    obtain ⟨a0, a1, a2, a3, a4, a5, a6, a7⟩ := s
    obtain ⟨b0, b1, b2, b3, b4, b5, b6, b7⟩ := t
    unfold sixEq at h
    simp [List.range, List.range.loop, Six.l] at h
    obtain ⟨rfl, rfl, rfl, rfl, rfl, rfl, rfl, rfl⟩ := h
    rfl
  · rintro rfl
    exact sixEq_self s
theorem run_sixEq (s t : Six) (d : Nat) (w : World) : (Op.equalIn (d + 2) 23 (.agg s.cells) (.agg t.cells)).run Tryz.prog w = .ok (sixEq s t) w := by
  unfold sixEq
  rw [List.range_eq_range', Op.equalIn]
  simp only [Sem.run_bind, run_underlying Tryz.underlying23, Result.andThen_ok, Tryz.sizeInt, Std.Legacy.Range.forIn_eq_forIn_range', Std.Legacy.Range.size, Nat.sub_zero, Nat.add_sub_cancel, Nat.div_one]
  have hl : ∀ i ∈ List.range' 0 8 1, i < 8 := fun i hi => by simpa using (List.mem_range'_1.1 hi).2
  generalize List.range' 0 8 1 = l at hl ⊢
  induction l with
  | nil => simp
  | cons i l ih =>
    have hi : i < 8 := hl i (by simp)
    have px : (part 3 s.cells (i * 1)).run Tryz.prog w = .ok (.int .i64 (s.l.getD i 0)) w := by
      simp [part, isAgg, run_underlying Tryz.underlying3, s.cells_at i hi]
    have py : (part 3 t.cells (i * 1)).run Tryz.prog w = .ok (.int .i64 (t.l.getD i 0)) w := by
      simp [part, isAgg, run_underlying Tryz.underlying3, t.cells_at i hi]
    have pe : (Op.equalIn (d + 1) 3 (.int .i64 (s.l.getD i 0)) (.int .i64 (t.l.getD i 0))).run Tryz.prog w = .ok (s.l.getD i 0 == t.l.getD i 0) w :=
      run_equalIn_int w d 3 .i64 .i64 _ _ Tryz.underlying3
    simp only [List.forIn_cons, Sem.run_bind, px, py, pe, Result.andThen_ok, List.all_cons]
    cases hb : (s.l.getD i 0 == t.l.getD i 0)
    · simp
    · simp only [Bool.not_true, Bool.false_eq_true, if_false, Sem.run_pure, Result.andThen_ok, Bool.true_and]
      exact ih fun j hj => hl j (by simp [hj])
/-- As the walk meets it. -/
theorem six_same (s : Six) (w : World) : (Op.equalIn 10000 23 (.agg s.cells) (.agg s.cells)).run Tryz.prog w = .ok true w := by
  rw [run_sixEq s s 9998 w, sixEq_self]
end Go.Proofs.YtonjifkjammopaaGreatDoor
