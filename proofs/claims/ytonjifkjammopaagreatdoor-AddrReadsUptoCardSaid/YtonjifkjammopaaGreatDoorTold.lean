/- plain.Told and gangplanksame.Error of nil and of an Errno. Conditions: the variable errors.errorType holds the handle that the row lists (Handle). -/
import Derived.Test.YtonjifkjammopaaGreatDoorErr
import Derived.Test.YtonjifkjammopaaGreatDoorSum
namespace Go.Proofs.YtonjifkjammopaaGreatDoor
open Go.RowKit

theorem Handle.below {w w' : World} (h : Handle w) (hb : Below w.heap.size w w') : Handle w' := by
  unfold Handle at *
  rw [hb.cell (World.block_lt_of_cell? w _ h)]
  exact h

theorem told_nil (w : World) : Calls Tryz.prog 22 #[.nilIface] w fun e w' => e = .returned (.int .i64 0) ∧ w = w' := by
  go_enter Tryz.func22, Tryz.ntmps22
  go_wp2
  go_ret
  exact ⟨rfl, rfl⟩
theorem told_err (n : Int) (w : World) (hg : Handle w) : Calls Tryz.prog 22 #[errv n] w fun e w' => e = .returned (.int .i64 n) ∧ Below w.heap.size w w' := by
  have hb : Below w.heap.size w (w.alloc (.cells #[.int .i64 0] 24)) := by go_grown
  have H := Lib.hid (hg.below hb)
  have hc : (w.alloc (.cells #[.int .i64 0] 24)).cell? ⟨w.heap.size, 0, none⟩ = some (.int .i64 0) := by simp
  have hf : (w.alloc (.cells #[.int .i64 0] 24)).frozen? ⟨w.heap.size, 0, none⟩ = false := by simp
  have hz : w.heap.size < (w.alloc (.cells #[.int .i64 0] 24)).heap.size := by simp
  have HC := Lib.hid hc
  have HF := Lib.hid hf
  clear hg hc hf
  unfold errv
  go_enter Tryz.func22, Tryz.ntmps22
  go_wp2_with fail
  generalize w.alloc (.cells #[.int .i64 0] 24) = W1 at *
  with_reducible refine (as_hit n ⟨w.heap.size, 0, none⟩ _ W1 H.out HC.out HF.out).mono ?_
  rintro e w' ⟨rfl, X, hX, rfl⟩
  have hx : X.cell? ⟨w.heap.size, 0, none⟩ = some (.int .i64 0) := (hX.cell (p := ⟨w.heap.size, 0, none⟩) hz).trans HC.out
  have hn : (X.setCell ⟨w.heap.size, 0, none⟩ (.int .i64 n)).cell? ⟨w.heap.size, 0, none⟩ = some (.int .i64 n) := by simp [go_sem, hx]
  have B : Below w.heap.size w (X.setCell ⟨w.heap.size, 0, none⟩ (.int .i64 n)) := (hb.trans (hX.mono hb.size)).setCell (p := ⟨w.heap.size, 0, none⟩) (Nat.le_refl _) _
  generalize X.setCell ⟨w.heap.size, 0, none⟩ (.int .i64 n) = W2 at *
  go_wp2_with fail
  go_ret
  exact ⟨rfl, B⟩

theorem error_nil (m : Int) (w : World) : Calls Tryz.prog 7 #[.nilIface, .int .i64 m] w fun e w' => e = .returned (.bool ((0 : Int) == m)) ∧ w = w' := by
  go_enter Tryz.func7, Tryz.ntmps7
  go_wp2_with fail
  refine (told_nil w).mono ?_
  rintro e w' ⟨rfl, rfl⟩
  go_wp2_with fail
  go_ret
  exact ⟨rfl, rfl⟩
theorem error_err (n m : Int) (w : World) (hg : Handle w) : Calls Tryz.prog 7 #[errv n, .int .i64 m] w fun e w' => e = .returned (.bool (n == m)) ∧ Below w.heap.size w w' := by
  have H := Lib.hid hg
  clear hg
  unfold errv
  go_enter Tryz.func7, Tryz.ntmps7
  go_wp2_with fail
  refine (told_err n w H.out).mono ?_
  rintro e w' ⟨rfl, hb⟩
  go_wp2_with fail
  go_ret
  exact ⟨rfl, hb⟩
end Go.Proofs.YtonjifkjammopaaGreatDoor
