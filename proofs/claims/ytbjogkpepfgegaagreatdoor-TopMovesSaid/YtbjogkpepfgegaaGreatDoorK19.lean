/- The contracts of package port: New, mark, Take, at, Give, Owner, Blocks, Free. Conditions: as each theorem states them. -/
import Derived.Test.YtbjogkpepfgegaaGreatDoorK11
import Derived.Test.YtbjogkpepfgegaaGreatDoorK04
import Derived.Deep.RegionHeld3
import Derived.BigQuiet
namespace Go.Proofs.YtbjogkpepfgegaaGreatDoor
open Go.RowKit
theorem Ext.grown {w w' : World} {r : Option Nat} (h : Ext w w') : w.grownBy w' r := ⟨h.os, h.tape, h.output, h.size, fun i hi _ => h.block i hi⟩
/-- The ports lie in memory. -/
structure Prt (w : World) (gP gB : Nat) (s : PS) : Prop where
  ptr : Blk w gP 157 #[.slice (some ⟨gB, 0, none⟩) s.n s.n]
  row : Blk w gB 189 s.cells
  ne : gP ≠ gB
  n0 : 1 ≤ s.n
  n1 : s.n ≤ 16
namespace Prt
variable {w w' : World} {gP gB : Nat} {s : PS}
theorem c0 (h : Prt w gP gB s) : w.cell? ⟨gP, 0, none⟩ = some (.slice (some ⟨gB, 0, none⟩) s.n s.n) := h.ptr.cells 0
theorem tk (h : Prt w gP gB s) {k j : Nat} (hk : k < s.n) (hj : j < 8) : w.cell? ⟨gB, k * 17 + 8 + j, none⟩ = some (.bool (s.tk (8 * k + j))) := by
  rw [show k * 17 + 8 + j = 17 * k + (8 + j) by omega, h.row.cells, s.cells_at (by omega), s.cell_tk k hj]
theorem many (h : Prt w gP gB s) {k : Nat} (hk : k < s.n) : w.cell? ⟨gB, k * 17 + 16, none⟩ = some (.int .i64 (s.many k : Nat)) := by
  rw [show k * 17 + 16 = 17 * k + 16 by omega, h.row.cells, s.cells_at (by omega), s.cell_many k]
theorem put (h : Prt w gP gB s) {k j : Nat} (hk : k < s.n) (hj : j < 8) (b : Bool) (M : Int) (hM : M = ((s.set (8 * k + j) b).many k : Nat)) :
    Prt ((w.setCell ⟨gB, k * 17 + 8 + j, none⟩ (.bool b)).setCell ⟨gB, k * 17 + 16, none⟩ (.int .i64 M)) gP gB (s.set (8 * k + j) b) := by
  subst hM
  refine ⟨(h.ptr.far h.ne _).far h.ne _, ?_, h.ne, h.n0, h.n1⟩
  rw [← s.cells_set b hk hj, show k * 17 + 8 + j = 17 * k + (8 + j) by omega, show k * 17 + 16 = 17 * k + 16 by omega]
  exact (h.row.put _ _).put _ _
theorem own (h : Prt w gP gB s) {k : Nat} (hk : k < s.n) : (Instr.loadAt 23 (.pointer (some ⟨gB, k * 17, none⟩))).run Tryz.prog w = .ok (.agg (s.own k).cells) w :=
  h.row.six (k * 17) (s.own k) fun j hj => by
    rw [show k * 17 + j = 17 * k + j by omega, s.cells_at (by omega), s.cell_own k hj, Six.cells_at _ j hj]
theorem sown (h : Prt w gP gB s) {k : Nat} (hk : k < s.n) (who : Six) : (Instr.storeAt 23 (.pointer (some ⟨gB, k * 17, none⟩)) (.agg who.cells)).run Tryz.prog w = .ok () (w.setCells gB (k * 17) who.cells.toList) :=
  run_storeAt_mid w gB (k * 17) _ who.cells (fun j hj => by
    have hj : j < 8 := hj
    refine ⟨?_, h.row.free _⟩
    rw [h.row.cells, s.cells_at (by omega)]
    rfl) Tryz.size6 (by simp [Six.cells, Value.oneCell'])
theorem drewN (h : Prt w gP gB s) (n : Nat) : Prt (w.drewN n) gP gB s := ⟨h.ptr.drewN n, h.row.drewN n, h.ne, h.n0, h.n1⟩
theorem drew (h : Prt w gP gB s) : Prt w.drew gP gB s := ⟨h.ptr.drew, h.row.drew, h.ne, h.n0, h.n1⟩
theorem ext (h : Prt w gP gB s) (k : Ext w w') : Prt w' gP gB s := ⟨h.ptr.ext k, h.row.ext k, h.ne, h.n0, h.n1⟩
theorem only {g : Nat} (h : Prt w gP gB s) (k : w.grownBy w' (some g)) (h0 : gP ≠ g) (h1 : gB ≠ g) : Prt w' gP gB s := ⟨h.ptr.only k h0, h.row.only k h1, h.ne, h.n0, h.n1⟩
theorem alloc (h : Prt w gP gB s) (o : Obj) : Prt (w.alloc o) gP gB s := ⟨h.ptr.alloc o, h.row.alloc o, h.ne, h.n0, h.n1⟩
theorem give (h : Prt w gP gB s) {k : Nat} (hk : k < s.n) (who : Six) : Prt (w.setCells gB (k * 17) who.cells.toList) gP gB (s.give k who) := by
  refine ⟨?_, ?_, h.ne, h.n0, h.n1⟩
  · exact h.ptr.only (only_cells _ _ (World.grownBy.refl _ _)) h.ne
  · rw [← s.cells_give who hk, Nat.mul_comm]
    exact h.row.puts _ _
end Prt
/-- The least port of a block that is free. -/
def PS.low (s : PS) (k : Nat) : Nat := Pl.first (fun j => !s.tk (8 * k + j)) 8
theorem PS.low_lt {s : PS} {k : Nat} (h : s.many k < 8) : s.low k < 8 := by
  refine Decidable.byContradiction fun hn => ?_
  have hl := Pl.first_le (fun j => !s.tk (8 * k + j)) 8
  have he : s.low k = 8 := by unfold PS.low at *; omega
  have : s.many k = 8 := Pl.cnt_all fun j hj => by
    have := Pl.first_before (p := fun j => !s.tk (8 * k + j)) (m := 8) (j := j) (by unfold PS.low at he; omega)
    simpa using this
  omega
set_option maxRecDepth 100000 in
set_option maxHeartbeats 1000000 in
theorem mark_ok (gP gB : Nat) (s : PS) (k : Nat) (w : World) (h : Prt w gP gB s) (hk : k < s.n) (hf : s.many k < 8) :
    Calls Tryz.prog 108 #[.pointer (some ⟨gP, 0, none⟩), .int .i64 k] w fun e w' => e = .returned (.int .i64 (1024 + 8 * (k : Int) + (s.low k : Int))) ∧ Prt w' gP gB (s.set (8 * k + s.low k) true) ∧ w.grownBy w' (some gB) := by
  have hl := PS.low_lt hf
  have hn := h.n1
  have c0 := h.c0
  have HT := Lib.hid (fun j hj => h.tk (j := j) hk hj)
  go_enter Tryz.func108, Tryz.ntmps108
  go_wp2
  go_loop [6] (fun i => ∃ j : Nat, j ≤ s.low k ∧ i = .int .i64 j) (fun i => 8 - (intOf i).toNat)
  case atStart => exact ⟨0, Nat.zero_le _, rfl⟩
  case round =>
    obtain ⟨j, hj, rfl⟩ := hrel
    have ht := HT.out j (by omega)
    by_cases hlt : j < s.low k
    · have hb : s.tk (8 * k + j) = true := by
        have := Pl.first_before (p := fun j => !s.tk (8 * k + j)) (m := 8) (j := j) hlt
        simpa using this
      rw [hb] at ht
      clear hb
      go_wp2
      go_round
      case rel => exact ⟨j + 1, by omega, by go_num⟩
      case measure => simp [intOf]; omega
    · have hj' : j = s.low k := by omega
      subst hj'
      have hb : s.tk (8 * k + s.low k) = false := by
        have h1 : (!s.tk (8 * k + s.low k)) = true := Pl.first_at (p := fun j => !s.tk (8 * k + j)) (m := 8) hl
        simpa using h1
      rw [hb] at ht
      have hM := s.many_set (k := k) true hl
      rw [hb, if_neg (by decide), if_pos rfl] at hM
      have HM := Lib.hid hM
      clear hM
      have cm := h.many hk
      have f1 := h.row.free (k * 17 + 8 + s.low k)
      have f2 := h.row.free (k * 17 + 16)
      have HH := Lib.hid h
      clear hb h
      go_wp2
      go_returns
      have hg : (s.set (8 * k + s.low k) true).many k = s.many k + 1 := by have := HM.out; omega
      exact ⟨ret_int (by omega), HH.out.put hk hl true _ (by rw [hg]; omega), only_set (only_set (World.grownBy.refl _ _) _ _) _ _⟩
/-- A block that is somebody's, with a port that is free. -/
def PS.mine (s : PS) (who : Six) (k : Nat) : Bool := decide (0 < s.many k) && (decide (s.many k < 8) && sixEq (s.own k) who)
def PS.fresh (s : PS) (k : Nat) : Bool := s.many k == 0
/-- The block whose port is taken; n: there is none. -/
def PS.pick (s : PS) (who : Six) : Nat := if Pl.first (s.mine who) s.n < s.n then Pl.first (s.mine who) s.n else Pl.first s.fresh s.n
def PS.takeQ (s : PS) (who : Six) : Int := if okS who = true then (if s.pick who < s.n then 0 else 3) else 1
def PS.takeN (s : PS) (who : Six) : Int := if s.takeQ who = 0 then 1024 + 8 * (s.pick who : Int) + (s.low (s.pick who) : Int) else 0
def PS.take (s : PS) (who : Six) : PS := if s.takeQ who = 0 then (s.give (s.pick who) who).set (8 * s.pick who + s.low (s.pick who)) true else s
/-- The first block of nobody's below k; -1. -/
def PS.fr (s : PS) (k : Nat) : Int := if Pl.first s.fresh k < k then (Pl.first s.fresh k : Int) else -1
theorem PS.fr_zero (s : PS) : s.fr 0 = -1 := by unfold PS.fr; rw [if_neg (by omega)]
theorem PS.fr_step (s : PS) (k : Nat) : s.fr (k + 1) = if s.many k = 0 ∧ s.fr k < 0 then (k : Int) else s.fr k := by
  have hl := Pl.first_le s.fresh k
  unfold PS.fr
  by_cases h : Pl.first s.fresh k < k
  · have e : Pl.first s.fresh (k + 1) = Pl.first s.fresh k := by show (if _ then _ else _) = _; rw [if_pos h]
    rw [e, if_pos h, if_pos (by omega), if_neg (by omega)]
  · rw [if_neg h]
    by_cases hm : s.many k = 0
    · have e : Pl.first s.fresh (k + 1) = k := by
        show (if Pl.first s.fresh k < k then Pl.first s.fresh k else if s.fresh k = true then k else k + 1) = k
        rw [if_neg h, if_pos (by unfold PS.fresh; simp [hm])]
      rw [e, if_pos (by omega), if_pos ⟨hm, by omega⟩]
    · have e : Pl.first s.fresh (k + 1) = k + 1 := by
        show (if Pl.first s.fresh k < k then Pl.first s.fresh k else if s.fresh k = true then k else k + 1) = k + 1
        rw [if_neg h, if_neg (by unfold PS.fresh; simp [hm])]
      rw [e, if_neg (by omega), if_neg (fun h => hm h.1)]
theorem PS.mine_all {s : PS} {who : Six} {k : Nat} (h : s.mine who k = true) : 0 < s.many k ∧ s.many k < 8 ∧ s.own k = who := by
  unfold PS.mine at h
  simp only [Bool.and_eq_true, decide_eq_true_eq] at h
  exact ⟨h.1, h.2.1, sixEq_iff.1 h.2.2⟩
theorem PS.mine_step (s : PS) {who : Six} {k : Nat} (hb : ∀ j, j < k → s.mine who j = false) (h : s.mine who k = false) : ∀ j, j < k + 1 → s.mine who j = false := fun j hj => by
  by_cases e : j = k
  · rw [e]; exact h
  · exact hb j (by omega)
theorem grown_trans {a b c : World} {g : Option Nat} (h : a.grownBy b g) (k : b.grownBy c g) : a.grownBy c g := ⟨k.os.trans h.os, k.tape.trans h.tape, k.output.trans h.output, Nat.le_trans h.size k.size, fun i hi hne => (k.block i (Nat.lt_of_lt_of_le hi h.size) hne).trans (h.block i hi hne)⟩
theorem drew_grown {a w : World} {g : Option Nat} (h : a.grownBy w g) : a.grownBy w.drew g := ⟨h.os, h.tape, h.output, h.size, h.block⟩
theorem drewN_grown {a w : World} {g : Option Nat} (h : a.grownBy w g) (n : Nat) : a.grownBy (w.drewN n) g := ⟨h.os, h.tape, h.output, h.size, h.block⟩
theorem PS.take_mine {s : PS} {who : Six} {k : Nat} (ho : okS who = true) (hk : k < s.n) (h : s.mine who k = true) (hb : ∀ j, j < k → s.mine who j = false) :
    s.takeQ who = 0 ∧ s.takeN who = 1024 + 8 * (k : Int) + (s.low k : Int) ∧ s.take who = s.set (8 * k + s.low k) true := by
  have hf : Pl.first (s.mine who) s.n = k := Pl.first_eq hk h hb
  have hp : s.pick who = k := by unfold PS.pick; rw [hf, if_pos hk]
  have hq : s.takeQ who = 0 := by unfold PS.takeQ; rw [if_pos ho, hp, if_pos hk]
  refine ⟨hq, ?_, ?_⟩
  · unfold PS.takeN; rw [if_pos hq, hp]
  · unfold PS.take
    rw [if_pos hq, hp]
    have hw := (PS.mine_all h).2.2
    have : s.give k who = s := by
      unfold PS.give
      rw [← hw, Pl.upd_id]
    rw [this]
theorem PS.take_fresh {s : PS} {who : Six} {k : Nat} (ho : okS who = true) (hb : ∀ j, j < s.n → s.mine who j = false) (hf : s.fr s.n = (k : Int)) :
    k < s.n ∧ s.many k = 0 ∧ s.takeQ who = 0 ∧ s.takeN who = 1024 + 8 * (k : Int) + (s.low k : Int) ∧ s.take who = (s.give k who).set (8 * k + s.low k) true := by
  have h1 : Pl.first (s.mine who) s.n = s.n := Pl.first_none hb
  unfold PS.fr at hf
  split at hf
  · rename_i h2
    have hk : Pl.first s.fresh s.n = k := by omega
    have hp : s.pick who = k := by unfold PS.pick; rw [h1, if_neg (by omega)]; exact hk
    have hq : s.takeQ who = 0 := by unfold PS.takeQ; rw [if_pos ho, hp, if_pos (by omega)]
    have h3 := Pl.first_at h2
    rw [hk] at h3
    refine ⟨by omega, by unfold PS.fresh at h3; simpa using h3, hq, ?_, ?_⟩
    · unfold PS.takeN; rw [if_pos hq, hp]
    · unfold PS.take; rw [if_pos hq, hp]
  · omega
theorem PS.take_full {s : PS} {who : Six} (ho : okS who = true) (hb : ∀ j, j < s.n → s.mine who j = false) (hf : s.fr s.n < 0) :
    s.takeQ who = 3 ∧ s.takeN who = 0 ∧ s.take who = s := by
  have h1 : Pl.first (s.mine who) s.n = s.n := Pl.first_none hb
  have h2 := Pl.first_le s.fresh s.n
  unfold PS.fr at hf
  split at hf
  · omega
  · have hq : s.takeQ who = 3 := by
      unfold PS.takeQ PS.pick
      rw [if_pos ho, h1, if_neg (show ¬ s.n < s.n by omega), if_neg (by omega)]
    refine ⟨hq, ?_, ?_⟩
    · unfold PS.takeN; rw [hq]; rfl
    · unfold PS.take; rw [hq]; rfl
theorem PS.take_bad {s : PS} {who : Six} (ho : okS who = false) : s.takeQ who = 1 ∧ s.takeN who = 0 ∧ s.take who = s := by
  have hq : s.takeQ who = 1 := by unfold PS.takeQ; rw [ho]; rfl
  refine ⟨hq, ?_, ?_⟩
  · unfold PS.takeN; rw [hq]; rfl
  · unfold PS.take; rw [hq]; rfl
set_option maxRecDepth 100000 in
set_option maxHeartbeats 2000000 in
theorem take_any (gP gB : Nat) (s : PS) (who : Six) (w : World) (h : Prt w gP gB s) :
    Calls Tryz.prog 94 #[.pointer (some ⟨gP, 0, none⟩), who.v] w fun e w' => e = .returned (.tuple #[.int .i64 (s.takeN who), erv (s.takeQ who)]) ∧ Prt w' gP gB (s.take who) ∧ w.grownBy w' (some gB) := by
  have KW := Blk.new w 23 who.cells
  have E0 : Ext w _ := (Ext.refl w).alloc (.cells who.cells 23)
  have lw := KW.six0
  have hPl := h.ptr.lt
  have hBl := h.row.lt
  cases ho : okS who
  case false =>
    obtain ⟨e1, e2, e3⟩ := PS.take_bad (s := s) ho
    rw [e1, e2, e3]
    have HO := Lib.hid ho
    have HH := Lib.hid h
    clear ho e1 e2 e3 h
    go_enter Tryz.func94, Tryz.ntmps94
    go_wp2_with ((apply load_by rfl _ _ rfl _ rfl); (focus (with_reducible assumption)))
    refine (check6_no who _ HO.out).mono ?_
    rintro e W1 ⟨rfl, q1⟩
    unfold errv
    go_wp2_with fail
    go_returns
    have E1 := E0.trans q1
    exact ⟨rfl, HH.out.ext E1, E1.grown⟩
  have HO := Lib.hid ho
  have hn := h.n1
  clear ho
  have KP := h.ext E0
  have hg : w.grownBy (w.alloc (.cells who.cells 23)) (some gB) := E0.grown
  go_enter Tryz.func94, Tryz.ntmps94
  go_wp2_with ((apply load_by rfl _ _ rfl _ rfl); (focus (with_reducible assumption)))
  refine (check6_yes who _ HO.out).mono ?_
  rintro e W1 ⟨rfl, q1⟩
  replace KP := KP.ext q1
  replace KW := KW.ext q1
  have hg1 : w.grownBy W1 (some gB) := (E0.trans q1).grown
  have c0 := KP.c0
  clear E0 lw hg q1
  go_wp2_with fail
  go_loopw [7, 20] (fun f i wr => ∃ k : Nat, k ≤ s.n ∧ i = .int .i64 k ∧ f = .int .i64 (s.fr k) ∧ (∀ j, j < k → s.mine who j = false) ∧ Prt wr gP gB s ∧ Blk wr w.heap.size 23 who.cells ∧ w.grownBy wr (some gB)) (fun _ i _ => s.n - (intOf i).toNat)
  case atStart => exact ⟨0, Nat.zero_le _, rfl, by rw [PS.fr_zero], fun j hj => by omega, KP, KW, hg1⟩
  case round =>
    clear c0 KP KW hg1
    obtain ⟨k, hk, rfl, rfl, hb, KP, KW, hg1⟩ := hrel
    have c0 := KP.c0
    have HKP := Lib.hid KP
    have HKW := Lib.hid KW
    have HG := Lib.hid hg1
    have hst := s.fr_step k
    have HB := Lib.hid hb
    have HST := Lib.hid hst
    clear hb hst
    by_cases hlt : k < s.n
    · have cm := KP.many hlt
      have hmb := Pl.cnt_le s.tk (8 * k) 8
      have hM0 : s.many k = Pl.cnt s.tk (8 * k) 8 := rfl
      have wk : IntKind.i64.wrap ((k : Int) + 1) = (k : Int) + 1 := IntWalk.i64_in _ (by omega)
      by_cases hm : s.many k = 0
      · have hnm : s.mine who k = false := by unfold PS.mine; rw [hm]; rfl
        have HNM := Lib.hid hnm
        rw [hm] at cm
        by_cases hf : s.fr k < 0
        · have HFR := Lib.hid (show s.fr (k + 1) = (k : Int) by rw [HST.out, if_pos ⟨hm, hf⟩])
          clear hnm hm hmb hM0 KP KW hg1
          go_wp2_with fail
          go_roundw
          case rel => exact ⟨k + 1, by omega, by go_num, by rw [HFR.out], s.mine_step HB.out HNM.out, HKP.out, HKW.out, HG.out⟩
          case measure => simp [intOf]; omega
        · have HFR := Lib.hid (show s.fr (k + 1) = s.fr k by rw [HST.out, if_neg (fun h => hf h.2)])
          clear hnm hm hmb hM0 KP KW hg1
          go_wp2_with fail
          go_quiet (fail)
          go_wp2_with fail
          go_roundw
          case rel => exact ⟨k + 1, by omega, by go_num, by rw [HFR.out], s.mine_step HB.out HNM.out, HKP.out.drewN _, HKW.out.drewN _, drewN_grown HG.out _⟩
          case measure => simp [intOf]; omega
      · have HFR := Lib.hid (show s.fr (k + 1) = s.fr k by rw [HST.out, if_neg (fun h => hm h.1)])
        have h0 : 0 < s.many k := by omega
        by_cases h8 : s.many k = 8
        · have hnm : s.mine who k = false := by unfold PS.mine; rw [h8]; simp
          have HNM := Lib.hid hnm
          rw [h8] at cm
          clear hnm hm hmb hM0 h8 h0 KP KW hg1
          go_wp2_with fail
          go_quiet (fail)
          go_wp2_with fail
          go_roundw
          case rel => exact ⟨k + 1, by omega, by go_num, by rw [HFR.out], s.mine_step HB.out HNM.out, HKP.out.drewN _, HKW.out.drewN _, drewN_grown HG.out _⟩
          case measure => simp [intOf]; omega
        · have h7 : s.many k < 8 := by omega
          obtain ⟨M, hM⟩ : ∃ M, s.many k = M := ⟨_, rfl⟩
          have HMM := Lib.hid hM
          have H7 := Lib.hid h7
          rw [hM] at cm h0 h7
          have b0 : ((M : Int) == 0) = false := by simp; omega
          have b1 : decide (0 < (M : Int)) = true := decide_eq_true (by omega)
          have b2 : decide ((M : Int) < 8) = true := decide_eq_true (by omega)
          have b3 : decide (0 < M) = true := decide_eq_true h0
          have b4 : decide (M < 8) = true := decide_eq_true h7
          have l1 := Lib.hid (fun m => (KP.drewN m).own hlt)
          have l2 := Lib.hid (fun m => (KW.drewN m).six0)
          have l3 := fun W => six_eq (s.own k) who W
          cases hq : sixEq (s.own k) who
          case false =>
            have hnm : s.mine who k = false := by unfold PS.mine; rw [hq]; simp
            have HNM := Lib.hid hnm
            rw [hq] at l3
            clear hnm hm hmb hM0 h8 h0 h7 hM hq KP KW hg1
            go_wp2_with fail
            refine wp_region_quiet_lit (by kernel_rfl) (by kernel_rfl) ?_; repeat (go_big_quiet_step (fail))
            go_big_quiet_want; refine quiet_ld _ _ rfl rfl (by rintro _ ⟨m, rfl⟩; exact l1.out m) ?_; go_big_quiet_on; (try simp only [Act.put, List.setIfInBounds_toArray, List.set_cons_zero, List.set_cons_succ]); repeat (go_big_quiet_step (fail))
            go_big_quiet_want; refine quiet_ld _ _ rfl rfl (by rintro _ ⟨m, rfl⟩; exact l2.out m) ?_; go_big_quiet_on; (try simp only [Act.put, List.setIfInBounds_toArray, List.set_cons_zero, List.set_cons_succ]); repeat (go_big_quiet_step (fail))
            refine wpQuiet_nil ?_; intro _ hw'; obtain ⟨nq, hw''⟩ := hw'; subst hw''
            go_wp2_with fail
            go_roundw
            case rel => exact ⟨k + 1, by omega, by go_num, by rw [HFR.out], s.mine_step HB.out HNM.out, HKP.out.drewN _, HKW.out.drewN _, drewN_grown HG.out _⟩
            case measure => simp [intOf]; omega
          case true =>
            have hmi : s.mine who k = true := by unfold PS.mine; rw [hM, hq]; simp; exact ⟨h0, h7⟩
            obtain ⟨t1, t2, t3⟩ := PS.take_mine HO.out hlt hmi HB.out
            have HT := Lib.hid (And.intro t1 (And.intro t2 t3))
            rw [hq] at l3
            clear hmi hm hmb hM0 h8 h0 h7 hM hq KP KW hg1 t1 t2 t3
            go_wp2_with fail
            refine wp_region_quiet_lit (by kernel_rfl) (by kernel_rfl) ?_; repeat (go_big_quiet_step (fail))
            go_big_quiet_want; refine quiet_ld _ _ rfl rfl (by rintro _ ⟨m, rfl⟩; exact l1.out m) ?_; go_big_quiet_on; (try simp only [Act.put, List.setIfInBounds_toArray, List.set_cons_zero, List.set_cons_succ]); repeat (go_big_quiet_step (fail))
            go_big_quiet_want; refine quiet_ld _ _ rfl rfl (by rintro _ ⟨m, rfl⟩; exact l2.out m) ?_; go_big_quiet_on; (try simp only [Act.put, List.setIfInBounds_toArray, List.set_cons_zero, List.set_cons_succ]); repeat (go_big_quiet_step (fail))
            refine wpQuiet_nil ?_; intro _ hw'; obtain ⟨nq, hw''⟩ := hw'; subst hw''
            go_wp2_with fail
            refine (mark_ok gP gB s k _ (HKP.out.drewN _) hlt H7.out).mono ?_
            rintro e W5 ⟨rfl, h5, g5⟩
            go_wp2_with fail
            go_returns
            obtain ⟨t1, t2, t3⟩ := HT.out
            rw [t1, t2, t3, erv_zero]
            exact ⟨rfl, h5, grown_trans (drewN_grown HG.out _) g5⟩
    · have hkn : k = s.n := by omega
      subst hkn
      by_cases hf : s.fr s.n < 0
      · obtain ⟨t1, t2, t3⟩ := PS.take_full HO.out HB.out hf
        have HT := Lib.hid (And.intro t1 (And.intro t2 t3))
        clear t1 t2 t3 KP KW hg1
        go_wp2_with fail
        go_returns
        obtain ⟨t1, t2, t3⟩ := HT.out
        rw [t1, t2, t3]
        exact ⟨rfl, HKP.out, HG.out⟩
      · obtain ⟨k, hk'⟩ : ∃ k : Nat, s.fr s.n = (k : Int) := ⟨(s.fr s.n).toNat, by omega⟩
        obtain ⟨hkn, hm0, t1, t2, t3⟩ := PS.take_fresh HO.out HB.out hk'
        have HT := Lib.hid (And.intro t1 (And.intro t2 t3))
        have HM0 := Lib.hid hm0
        rw [hk']
        have hkw : ¬ gP = w.heap.size := by omega
        have hbw : ¬ w.heap.size = gB := by omega
        clear hf t1 t2 t3 hm0 hk' KP KW hg1
        go_wp2_with fail
        refine wp_region_held_drew (S := (fun w' => w'.cell? ⟨gP, 0, none⟩ = some (.slice (some ⟨gB, 0, none⟩) s.n s.n) ∧ Blk w' w.heap.size 23 who.cells)) (by kernel_rfl) ⟨HKP.out.c0, HKW.out.drew⟩ (fun hS0 => ?_)
        (refine wpAnyH_take (i := 0) (v := ?_) rfl (by kernel_rfl) (by kernel_rfl) (by kernel_rfl) (fun _ _ _ h => h) (Or.inl ⟨by rfl, ?_⟩) (by assumption) ?_; rotate_left; focus (intro w hSw; (try dsimp only at hSw); go_simp; try with_reducible rfl); try simp only [Act.put, List.getElem_toArray, List.getElem_cons_succ, List.getElem_cons_zero, List.setIfInBounds_toArray, List.set_cons_zero, List.set_cons_succ])
        (refine wpAnyH_take (i := 1) (v := ?_) rfl (by kernel_rfl) (by kernel_rfl) (by kernel_rfl) (fun _ _ _ h => h) (Or.inl ⟨by rfl, ?_⟩) (by assumption) ?_; rotate_left; focus (intro w hSw; (try dsimp only at hSw); go_simp; try with_reducible rfl); try simp only [Act.put, List.getElem_toArray, List.getElem_cons_succ, List.getElem_cons_zero, List.setIfInBounds_toArray, List.set_cons_zero, List.set_cons_succ])
        (refine wpAnyH_take (i := 2) (v := ?_) rfl (by kernel_rfl) (by kernel_rfl) (by kernel_rfl) (fun _ _ _ h => h) (Or.inl ⟨by rfl, ?_⟩) (by assumption) ?_; rotate_left; focus (intro w hSw; (try dsimp only at hSw); go_simp; try with_reducible rfl); try simp only [Act.put, List.getElem_toArray, List.getElem_cons_succ, List.getElem_cons_zero, List.setIfInBounds_toArray, List.set_cons_zero, List.set_cons_succ])
        (refine wpAnyH_take (i := 4) (v := ?_) rfl (by kernel_rfl) (by kernel_rfl) (by kernel_rfl) (fun _ _ _ h => h) (Or.inl ⟨by rfl, ?_⟩) (by assumption) ?_; rotate_left; focus (intro w hSw; (try dsimp only at hSw); go_simp; try with_reducible rfl); try simp only [Act.put, List.getElem_toArray, List.getElem_cons_succ, List.getElem_cons_zero, List.setIfInBounds_toArray, List.set_cons_zero, List.set_cons_succ])
        (refine wpAnyH_take (i := 3) (v := ?_) rfl (by kernel_rfl) (by kernel_rfl) (by kernel_rfl) (fun _ _ _ h => h) (Or.inl ⟨by rfl, ?_⟩) (by assumption) ?_; rotate_left; focus (intro w hSw; (try dsimp only at hSw); go_simp; try with_reducible rfl); try simp only [Act.put, List.getElem_toArray, List.getElem_cons_succ, List.getElem_cons_zero, List.setIfInBounds_toArray, List.set_cons_zero, List.set_cons_succ])
        refine wpAnyH_take (i := 5) rfl (by kernel_rfl) (by kernel_rfl) (by kernel_rfl) (fun _ _ _ h => h) (Or.inl ⟨by rfl, fun W hS => exec_load rfl rfl (Blk.six0 hS.2)⟩) (by assumption) ?_
        (try simp only [Act.put, List.getElem_toArray, List.getElem_cons_succ, List.getElem_cons_zero, List.setIfInBounds_toArray, List.set_cons_zero, List.set_cons_succ])
        (refine wpAnyH_take (i := 6) (v := ?_) rfl (by kernel_rfl) (by kernel_rfl) (by kernel_rfl) (fun _ _ _ h => h) (Or.inl ⟨by rfl, ?_⟩) (by assumption) ?_; rotate_left; focus (intro w hSw; (try dsimp only at hSw); go_simp; try with_reducible rfl); try simp only [Act.put, List.getElem_toArray, List.getElem_cons_succ, List.getElem_cons_zero, List.setIfInBounds_toArray, List.set_cons_zero, List.set_cons_succ])
        (refine wpAnyH_take (i := 7) (v := ?_) rfl (by kernel_rfl) (by kernel_rfl) (by kernel_rfl) (fun _ _ _ h => h) (Or.inl ⟨by rfl, ?_⟩) (by assumption) ?_; rotate_left; focus (intro w hSw; (try dsimp only at hSw); go_simp; try with_reducible rfl); try simp only [Act.put, List.getElem_toArray, List.getElem_cons_succ, List.getElem_cons_zero, List.setIfInBounds_toArray, List.set_cons_zero, List.set_cons_succ])
        (try simp only [Act.put, List.getElem_toArray, List.getElem_cons_succ, List.getElem_cons_zero, List.setIfInBounds_toArray, List.set_cons_zero, List.set_cons_succ])
        (refine wpAnyH_ready (rs := [8]) (by kernel_rfl) (by simp) ?_; refine AllReadyH.cons rfl (fun K hK => ?_) AllReadyH.nil)
        rw [if_pos (by rfl)]
        refine wp_store_at _ _ _ rfl _ rfl (HKP.out.drew.sown hkn who) rfl ?_
        have K5 := HKP.out.drew.give hkn who
        have G5 : w.grownBy _ (some gB) := only_cells who.cells.toList (k * 17) (drew_grown HG.out)
        refine hK.out _ _ ⟨K5.c0, HKW.out.drew.only (only_cells who.cells.toList (k * 17) (World.grownBy.refl _ _)) hbw⟩ ?_
        clear hK K
        intro hS
        refine wpAnyH_done (by kernel_rfl) ?_ _
        have HK5 := Lib.hid K5
        have HG5 := Lib.hid G5
        clear K5 G5
        go_wp2_with fail
        refine (mark_ok gP gB (s.give k who) k _ HK5.out hkn (by rw [show (s.give k who).many k = s.many k from rfl, HM0.out]; omega)).mono ?_
        rintro e W5 ⟨rfl, h5, g5⟩
        go_wp2_with fail
        go_returns
        obtain ⟨t1, t2, t3⟩ := HT.out
        rw [t1, t2, t3, erv_zero]
        exact ⟨rfl, h5, grown_trans HG5.out g5⟩
end Go.Proofs.YtbjogkpepfgegaaGreatDoor
