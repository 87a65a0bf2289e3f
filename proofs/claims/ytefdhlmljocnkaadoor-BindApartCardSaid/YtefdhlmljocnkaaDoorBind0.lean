/- A table of binds that is new: bind.New, and All of it. Conditions: as each lemma states them. -/
import Derived.Test.YtefdhlmljocnkaaDoorPort3
import Derived.Test.YtefdhlmljocnkaaDoorBackOwn
import Derived.Deep.DeepCutAuto
import Derived.Maps.RangeWalk
namespace Go.Proofs.YtefdhlmljocnkaaDoor
open Go.RowKit
set_option maxRecDepth 100000 in
theorem len64_zero (w : World) : Calls Tryd.prog 116 #[.int .u64 0] w fun e w' => e = .returned (.int .i64 0) ∧ w' = w := by
  go_enter Tryd.func116, Tryd.ntmps116
  go_wp2
  go_returns
  exact ⟨ret_int (by decide +kernel), rfl⟩
set_option maxRecDepth 100000 in
theorem len_zero (w : World) : Calls Tryd.prog 90 #[.int .u64 0] w fun e w' => e = .returned (.int .i64 0) ∧ w' = w := by
  go_enter Tryd.func90, Tryd.ntmps90
  go_wp2_with fail
  refine (len64_zero w).mono ?_
  rintro e w' ⟨rfl, rfl⟩
  go_wp2_with fail
  go_returns
  exact ⟨rfl, rfl⟩
set_option maxRecDepth 100000 in
theorem isort_zero (f : Value) (w : World) : Calls Tryd.prog 107 #[.slice none 0 0, .int .i64 0, .int .i64 0, f] w fun e w' => e = .returned (.tuple #[]) ∧ w' = w := by
  go_enter Tryd.func107, Tryd.ntmps107
  go_wp2
  go_loop [8] (fun i => i = .int .i64 1) (fun _ => 0)
  case atStart => rfl
  case round =>
    obtain rfl := hrel
    go_wp2
    go_returns
    exact ⟨rfl, rfl⟩
set_option maxRecDepth 100000 in
theorem pdq_zero (f : Value) (w : World) : Calls Tryd.prog 89 #[.slice none 0 0, .int .i64 0, .int .i64 0, .int .i64 0, f] w fun e w' => e = .returned (.tuple #[]) ∧ w' = w := by
  go_enter Tryd.func89, Tryd.ntmps89
  go_wp2_with fail
  go_loop [1, 2, 3] (fun a b c => a = .int .i64 0 ∧ b = .int .i64 0 ∧ c = .int .i64 0) (fun _ _ _ => 0)
  case atStart => exact ⟨rfl, rfl, rfl⟩
  case round =>
    obtain ⟨rfl, rfl, rfl⟩ := hrel
    go_wp2_with fail
    refine (isort_zero f w).mono ?_
    rintro e w' ⟨rfl, rfl⟩
    go_wp2_with fail
    go_returns
    exact ⟨rfl, rfl⟩
set_option maxRecDepth 100000 in
theorem sort_zero (f : Value) (w : World) : Calls Tryd.prog 73 #[.slice none 0 0, f] w fun e w' => e = .returned (.tuple #[]) ∧ w' = w := by
  go_enter Tryd.func73, Tryd.ntmps73
  go_wp2_with fail
  refine (len_zero w).mono ?_
  rintro e w' ⟨rfl, rfl⟩
  go_wp2_with fail
  refine (pdq_zero f _).mono ?_
  rintro e w' ⟨rfl, rfl⟩
  go_wp2_with fail
  go_returns
  exact ⟨rfl, rfl⟩
set_option maxRecDepth 100000 in
theorem sorted_zero (w : World) : Calls Tryd.prog 55 #[.slice none 0 0] w fun e w' => e = .returned (.slice none 0 0) ∧ w' = w := by
  go_enter Tryd.func55, Tryd.ntmps55
  go_wp2_with fail
  refine (sort_zero _ w).mono ?_
  rintro e w' ⟨rfl, rfl⟩
  go_wp2_with fail
  go_returns
  exact ⟨rfl, rfl⟩
/-- A table of which nothing is bound. -/
structure Tab0 (w : World) (gT gP gB gF gN : Nat) (n : Nat) : Prop where
  ptr : Blk w gT 105 #[.pointer (some ⟨gP, 0, none⟩), .map (some gF), .map (some gN)]
  prt : Prt w gP gB (PS.zero n)
  flows : w.heap[gF]? = some (.map #[] 0)
  nears : w.heap[gN]? = some (.map #[] 0)
set_option maxRecDepth 100000 in
set_option maxHeartbeats 1000000 in
theorem bnew_ok (n : Nat) (w : World) (h0 : 1 ≤ n) (h1 : n ≤ 16) :
    Calls Tryd.prog 13 #[.int .i64 (n : Int)] w fun e w' => ∃ gT gP gB gF gN, e = .returned (.tuple #[.pointer (some ⟨gT, 0, none⟩), .nilIface]) ∧ Tab0 w' gT gP gB gF gN n ∧ Ext w w' ∧ w.heap.size ≤ gT ∧ w.heap.size ≤ gP ∧ w.heap.size ≤ gB ∧ w.heap.size ≤ gF ∧ w.heap.size ≤ gN := by
  have hmm := @run_makeMap Tryd.prog
  go_enter Tryd.func13, Tryd.ntmps13
  go_wp2_with fail
  refine (new_ok n w h0 h1).mono ?_
  rintro e W1 ⟨gP, gB, rfl, P1, E1, hgP, hgB⟩
  have hz1 := E1.size
  go_wp2_with fail
  go_returns
  have E2 := ((E1.alloc (.map #[] 0)).alloc (.map #[] 0)).alloc (.cells #[.pointer (some ⟨gP, 0, none⟩), .map (some W1.heap.size), .map (some (W1.heap.size + 1))] 105)
  refine ⟨W1.heap.size + 1 + 1, gP, gB, W1.heap.size, W1.heap.size + 1, rfl, ⟨?_, ((P1.alloc _).alloc _).alloc _, ?_, ?_⟩, E2, by omega, hgP, hgB, hz1, by omega⟩
  · exact Blk.at _ _ _ (by simp)
  · rw [heap_alloc_old _ _ (by simp; omega), heap_alloc_old _ _ (by simp)]
    exact heap_alloc_new _ _
  · rw [heap_alloc_old _ _ (by simp)]
    have := heap_alloc_new (W1.alloc (.map #[] 0)) (.map #[] 0)
    simpa using this
set_option maxRecDepth 100000 in
theorem bnew_no (n : Int) (w : World) (h : n < 1 ∨ 16 < n) : Calls Tryd.prog 13 #[.int .i64 n] w fun e w' => e = .returned (.tuple #[.pointer none, errv 1]) ∧ w' = w := by
  have HN := Lib.hid (new_no n w h)
  unfold errv at HN ⊢
  clear h
  go_enter Tryd.func13, Tryd.ntmps13
  go_wp2_with fail
  refine HN.out.mono ?_
  rintro e w' ⟨rfl, rfl⟩
  go_wp2_with fail
  go_returns
  exact ⟨rfl, rfl⟩
theorem next_none (w : World) (ty : TypeId) (g c : Nat) (h : w.heap[g]? = some (.map #[] c)) :
    (Instr.next (.pointer (some ⟨w.heap.size, 0, none⟩)) false ty).run Tryd.prog (w.alloc (.mapIter (some g) c #[] c)) = .ok (.tuple #[.bool false]) (w.alloc (.mapIter (some g) c #[] c)) := by
  rcases run_next_map (P := Tryd.prog) w ty g c c #[] #[] c h (fun x hx => by simp at hx) (Nat.le_refl _) with ⟨_, hr⟩ | ⟨e, he, _⟩
  · exact hr
  · simp [leftOf] at he
set_option maxRecDepth 100000 in
set_option maxHeartbeats 1000000 in
theorem all_zero (gT gP gB gF gN n : Nat) (w : World) (h : Tab0 w gT gP gB gF gN n) :
    Calls Tryd.prog 29 #[.pointer (some ⟨gT, 0, none⟩)] w fun e w' => e = .returned (.slice none 0 0) ∧ Ext w w' := by
  have c2 : w.cell? ⟨gT, 2, none⟩ = some (.map (some gN)) := h.ptr.cells 2
  have hr := run_range_map (P := Tryd.prog) w 103 3 53 gN #[] 0 Tryd.underlying103 h.nears
  have hn := fun ty => next_none w ty gN 0 h.nears
  have E1 : Ext w _ := (Ext.refl w).alloc (.mapIter (some gN) 0 #[] 0)
  clear h
  go_enter Tryd.func29, Tryd.ntmps29
  go_wp2_with fail
  go_loop [3] (fun v => v = .slice none 0 0) (fun _ => 0)
  case atStart => rfl
  case round =>
    obtain rfl := hrel
    go_wp2_with fail
    refine (sorted_zero _).mono ?_
    rintro e w' ⟨rfl, rfl⟩
    go_wp2_with fail
    go_returns
    exact ⟨rfl, E1⟩
end Go.Proofs.YtefdhlmljocnkaaDoor
