/- pick.Pick and PickOf with the fault told. Conditions: as each theorem states them. -/
import Derived.Test.YtapmbjmcbllalaaDoorRefP
namespace Go.Proofs.YtapmbjmcbllalaaDoor
open Go.RowKit
set_option maxRecDepth 100000 in
set_option maxHeartbeats 1000000 in
/-- Pick answers the fault of the servers first, then that of the score. -/
theorem pick_no (seed : Int) (f : Flow) (a : Option Addr) (n c : Nat) (bs : List Pl.Back) (w : World) (hb : Backs w a n bs) (hnc : n ≤ c) (i0 q0 : Int) (hp : Pl.PF bs i0 q0) (h : q0 = 0 → ¬ ((0 ≤ seed ∧ seed < 2147483648) ∧ f.Ok)) :
    Calls Tryd.prog 18 #[.int .i64 seed, f.v, .slice a n c] w fun e w' => e = .returned (.tuple #[backv Pl.back0, errv (pq q0)]) ∧ Ext w w' := by
  have HB := Lib.hid hb
  have HH := Lib.hid h
  have HP := Lib.hid hp
  have K0 := Blk.new w 37 f.cells
  have E0 : Ext w (w.alloc (.cells f.cells 37)) := (Ext.refl w).alloc _
  clear hb h hp
  go_enter Tryd.func18, Tryd.ntmps18
  go_wp2_with fail
  refine at_world (fun W => Ext w W ∧ Blk W w.heap.size 37 f.cells ∧ Blk W (w.heap.size + 1) 53 #[.int .i64 Pl.back0.id, .int .i64 Pl.back0.addr, .int .i64 Pl.back0.door, .int .i64 Pl.back0.weight, .bool Pl.back0.up, .bool Pl.back0.drain]) ⟨E0.alloc _, K0.alloc _, Blk.at _ _ _ (by simp)⟩ ?_
  rintro W1 ⟨E1, k1, r1⟩
  by_cases hq : q0 = 0
  · have hno : ¬ ((0 ≤ seed ∧ seed < 2147483648) ∧ ((0 : Int) ≤ 0 ∧ (0 : Int) ≤ 65535) ∧ f.Ok) := fun hh => HH.out hq ⟨hh.1, hh.2.2⟩
    have HN := Lib.hid hno
    refine (pcheck_ok a n c bs W1 (HB.out.ext E1) hnc (HP.out.ok hq)).mono ?_
    rintro e W2 ⟨rfl, q2⟩
    have HQ := Lib.hid (show pq q0 = 1 by unfold pq; rw [if_pos hq])
    have k2 := k1.ext q2
    have r2 := r1.ext q2
    have E2 := E1.trans q2
    have l2 := k2.flow
    clear hno hq
    go_wp2_with ((apply load_by rfl _ _ rfl _ rfl); (focus (with_reducible assumption)))
    refine (score_bad seed f 0 W2 HN.out).mono ?_
    rintro e W3 ⟨rfl, q3⟩
    have r3 := r2.ext q3
    have E3 := E2.trans q3
    have rc := r3.cells
    have rf := r3.free
    clear l2
    unfold errv
    go_wp2_with fail
    have r5 : Blk _ (w.heap.size + 1) 53 #[.int .i64 Pl.back0.id, .int .i64 Pl.back0.addr, .int .i64 Pl.back0.door, .int .i64 Pl.back0.weight, .bool Pl.back0.up, .bool Pl.back0.drain] := (((((r3.put 0 (.int .i64 0)).put 1 (.int .i64 0)).put 2 (.int .i64 0)).put 3 (.int .i64 0)).put 4 (.bool false)).put 5 (.bool false)
    have rc5 := r5.cells
    refine bodyPost_ret (v := .tuple #[backv Pl.back0, errv 1]) (by simp [results, Tryd.results18, go_sem, rc5, errv]) rfl ⟨by rw [HQ.out], ?_⟩
    exact (((((E3.set (p := ⟨w.heap.size + 1, 0, none⟩) (by show _ ≤ w.heap.size + 1; omega) _).set (p := ⟨w.heap.size + 1, 1, none⟩) (by show _ ≤ w.heap.size + 1; omega) _).set (p := ⟨w.heap.size + 1, 2, none⟩) (by show _ ≤ w.heap.size + 1; omega) _).set (p := ⟨w.heap.size + 1, 3, none⟩) (by show _ ≤ w.heap.size + 1; omega) _).set (p := ⟨w.heap.size + 1, 4, none⟩) (by show _ ≤ w.heap.size + 1; omega) _).set (p := ⟨w.heap.size + 1, 5, none⟩) (by show _ ≤ w.heap.size + 1; omega) _
  · refine (pcheck_all a n c bs W1 (HB.out.ext E1) hnc).mono ?_
    rintro e W3 ⟨⟨i, q, hpf, rfl⟩, q3⟩
    obtain ⟨rfl, rfl⟩ := hpf.one HP.out
    have HQ := Lib.hid (show pq q = q by unfold pq; rw [if_neg hq])
    rw [erv_ne hq]
    have r3 := r1.ext q3
    have E3 := E1.trans q3
    have rc := r3.cells
    have rf := r3.free
    clear hq hpf
    unfold errv
    go_wp2_with fail
    have r5 : Blk _ (w.heap.size + 1) 53 #[.int .i64 Pl.back0.id, .int .i64 Pl.back0.addr, .int .i64 Pl.back0.door, .int .i64 Pl.back0.weight, .bool Pl.back0.up, .bool Pl.back0.drain] := (((((r3.put 0 (.int .i64 0)).put 1 (.int .i64 0)).put 2 (.int .i64 0)).put 3 (.int .i64 0)).put 4 (.bool false)).put 5 (.bool false)
    have rc5 := r5.cells
    refine bodyPost_ret (v := .tuple #[backv Pl.back0, errv q]) (by simp [results, Tryd.results18, go_sem, rc5, errv]) rfl ⟨by rw [HQ.out], ?_⟩
    exact (((((E3.set (p := ⟨w.heap.size + 1, 0, none⟩) (by show _ ≤ w.heap.size + 1; omega) _).set (p := ⟨w.heap.size + 1, 1, none⟩) (by show _ ≤ w.heap.size + 1; omega) _).set (p := ⟨w.heap.size + 1, 2, none⟩) (by show _ ≤ w.heap.size + 1; omega) _).set (p := ⟨w.heap.size + 1, 3, none⟩) (by show _ ≤ w.heap.size + 1; omega) _).set (p := ⟨w.heap.size + 1, 4, none⟩) (by show _ ≤ w.heap.size + 1; omega) _).set (p := ⟨w.heap.size + 1, 5, none⟩) (by show _ ≤ w.heap.size + 1; omega) _


set_option maxRecDepth 100000 in
set_option maxHeartbeats 1000000 in
theorem rpick_no (seed : Int) (f : Flow) (a : Option Addr) (n c : Nat) (bs : List Pl.Back) (w : World) (hb : Backs w a n bs) (i0 q0 : Int) (hp : Pl.PF bs i0 q0) (h : q0 = 0 → ¬ ((0 ≤ seed ∧ seed < 2147483648) ∧ f.Ok)) :
    Calls Tryd.prog 17 #[.int .i64 seed, f.v, .slice a n c] w fun e w' => e = .returned (.tuple #[backv Pl.back0, .int .i64 (pq q0)]) ∧ Ext w w' := by
  have HB := Lib.hid hb
  have HH := Lib.hid h
  have HP := Lib.hid hp
  have K0 := Blk.new w 37 f.cells
  have E0 : Ext w (w.alloc (.cells f.cells 37)) := (Ext.refl w).alloc _
  clear hb h hp
  go_enter Tryd.func17, Tryd.ntmps17
  go_wp2_with fail
  refine at_world (fun W => Ext w W ∧ Blk W w.heap.size 37 f.cells ∧ Blk W (w.heap.size + 1) 53 #[.int .i64 Pl.back0.id, .int .i64 Pl.back0.addr, .int .i64 Pl.back0.door, .int .i64 Pl.back0.weight, .bool Pl.back0.up, .bool Pl.back0.drain]) ⟨E0.alloc _, K0.alloc _, Blk.at _ _ _ (by simp)⟩ ?_
  rintro W1 ⟨E1, k1, r1⟩
  refine (rbacks_any a n c bs W1 (HB.out.ext E1)).mono ?_
  rintro e W2 ⟨⟨i, q, hpf, rfl⟩, q2⟩
  obtain ⟨rfl, rfl⟩ := hpf.one HP.out
  have k2 := k1.ext q2
  have r2 := r1.ext q2
  have E2 := E1.trans q2
  have l2 := k2.flow
  clear hpf
  by_cases hq : q = 0
  · have hno : ¬ ((0 ≤ seed ∧ seed < 2147483648) ∧ ((0 : Int) ≤ 0 ∧ (0 : Int) ≤ 65535) ∧ f.Ok) := fun hh => HH.out hq ⟨hh.1, hh.2.2⟩
    have HN := Lib.hid hno
    have HQ := Lib.hid (show pq q = 1 by unfold pq; rw [if_pos hq])
    have hqb : (q != 0) = false := by simpa using hq
    clear hno hq
    go_wp2_with ((apply load_by rfl _ _ rfl _ rfl); (focus (with_reducible assumption)))
    refine (rscore_bad seed f 0 W2 HN.out).mono ?_
    rintro e W3 ⟨rfl, q3⟩
    have r3 := r2.ext q3
    have E3 := E2.trans q3
    have rc := r3.cells
    have rf := r3.free
    clear l2
    go_wp2_with fail
    have r5 : Blk _ (w.heap.size + 1) 53 #[.int .i64 Pl.back0.id, .int .i64 Pl.back0.addr, .int .i64 Pl.back0.door, .int .i64 Pl.back0.weight, .bool Pl.back0.up, .bool Pl.back0.drain] := (((((r3.put 0 (.int .i64 0)).put 1 (.int .i64 0)).put 2 (.int .i64 0)).put 3 (.int .i64 0)).put 4 (.bool false)).put 5 (.bool false)
    have rc5 := r5.cells
    refine bodyPost_ret (v := .tuple #[backv Pl.back0, .int .i64 1]) (by simp [results, Tryd.results17, go_sem, rc5]) rfl ⟨by rw [HQ.out], ?_⟩
    exact (((((E3.set (p := ⟨w.heap.size + 1, 0, none⟩) (by show _ ≤ w.heap.size + 1; omega) _).set (p := ⟨w.heap.size + 1, 1, none⟩) (by show _ ≤ w.heap.size + 1; omega) _).set (p := ⟨w.heap.size + 1, 2, none⟩) (by show _ ≤ w.heap.size + 1; omega) _).set (p := ⟨w.heap.size + 1, 3, none⟩) (by show _ ≤ w.heap.size + 1; omega) _).set (p := ⟨w.heap.size + 1, 4, none⟩) (by show _ ≤ w.heap.size + 1; omega) _).set (p := ⟨w.heap.size + 1, 5, none⟩) (by show _ ≤ w.heap.size + 1; omega) _
  · have HQ := Lib.hid (show pq q = q by unfold pq; rw [if_neg hq])
    have hqb : (q != 0) = true := by simpa using hq
    have rc := r2.cells
    have rf := r2.free
    clear hq l2
    go_wp2_with fail
    have r5 : Blk _ (w.heap.size + 1) 53 #[.int .i64 Pl.back0.id, .int .i64 Pl.back0.addr, .int .i64 Pl.back0.door, .int .i64 Pl.back0.weight, .bool Pl.back0.up, .bool Pl.back0.drain] := (((((r2.put 0 (.int .i64 0)).put 1 (.int .i64 0)).put 2 (.int .i64 0)).put 3 (.int .i64 0)).put 4 (.bool false)).put 5 (.bool false)
    have rc5 := r5.cells
    refine bodyPost_ret (v := .tuple #[backv Pl.back0, .int .i64 q]) (by simp [results, Tryd.results17, go_sem, rc5]) rfl ⟨by rw [HQ.out], ?_⟩
    exact (((((E2.set (p := ⟨w.heap.size + 1, 0, none⟩) (by show _ ≤ w.heap.size + 1; omega) _).set (p := ⟨w.heap.size + 1, 1, none⟩) (by show _ ≤ w.heap.size + 1; omega) _).set (p := ⟨w.heap.size + 1, 2, none⟩) (by show _ ≤ w.heap.size + 1; omega) _).set (p := ⟨w.heap.size + 1, 3, none⟩) (by show _ ≤ w.heap.size + 1; omega) _).set (p := ⟨w.heap.size + 1, 4, none⟩) (by show _ ≤ w.heap.size + 1; omega) _).set (p := ⟨w.heap.size + 1, 5, none⟩) (by show _ ≤ w.heap.size + 1; omega) _
end Go.Proofs.YtapmbjmcbllalaaDoor
