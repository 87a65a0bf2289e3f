/- The contract of ip6.Decode. Conditions: as each theorem states them. -/
import Derived.Test.YtlgdmipejgggkaaDoorIp6
import Derived.Test.YtlgdmipejgggkaaDoorOf
import Derived.Test.YtlgdmipejgggkaaDoorOr8
import Derived.Test.YtlgdmipejgggkaaDoorStr
import Derived.Test.YtlgdmipejgggkaaDoorStore
import Derived.Test.YtlgdmipejgggkaaDoorTail
import Derived.BigQuiet
import Derived.Deep.RegionHeld3
import Derived.Deep.DeepCutAuto
namespace Go.Proofs.YtlgdmipejgggkaaDoor
open Go.RowKit
namespace Pl
/-- Are bytes a packet of sixes? -/
def Is6 (xs : List Int) : Prop := (40 ≤ xs.length ∧ xs.length ≤ 360) ∧ xs.getD 0 0 = 96 ∧ (xs.getD 1 0 = 0 ∧ xs.getD 2 0 = 0 ∧ xs.getD 3 0 = 0) ∧ xs.getD 4 0 * 256 + xs.getD 5 0 = xs.length - 40
def dec6 (xs : List Int) : P6 := ⟨sixAt (xs.drop 8), sixAt (xs.drop 24), xs.getD 7 0, xs.getD 6 0⟩
end Pl
def p60 : P6 := ⟨⟨0, 0, 0, 0, 0, 0, 0, 0⟩, ⟨0, 0, 0, 0, 0, 0, 0, 0⟩, 0, 0⟩

theorem P6.one (p : P6) (a : Option Addr) (n c : Nat) : (p.cells (.slice a n c)).all (·.oneCell') = true := by simp [P6.cells, Value.oneCell']
theorem sto6 {w : World} {R : Nat} (k : Blk w R 39 #[.int .i64 0, .int .i64 0, .int .i64 0, .int .i64 0, .int .i64 0, .int .i64 0, .int .i64 0, .int .i64 0, .int .i64 0, .int .i64 0, .int .i64 0, .int .i64 0, .int .i64 0, .int .i64 0, .int .i64 0, .int .i64 0, .int .i64 0, .int .i64 0, .slice none 0 0]) (p : P6) (a : Option Addr) (n c : Nat) :
    (Instr.storeAt 39 (.pointer (some ⟨R, 0, none⟩)) (.agg #[.int .i64 p.src.x0, .int .i64 p.src.x1, .int .i64 p.src.x2, .int .i64 p.src.x3, .int .i64 p.src.x4, .int .i64 p.src.x5, .int .i64 p.src.x6, .int .i64 p.src.x7, .int .i64 p.dst.x0, .int .i64 p.dst.x1, .int .i64 p.dst.x2, .int .i64 p.dst.x3, .int .i64 p.dst.x4, .int .i64 p.dst.x5, .int .i64 p.dst.x6, .int .i64 p.dst.x7, .int .i64 p.hop, .int .i64 p.kind, .slice a n c])).run Tryd.prog w = .ok () (w.setRow R (p.cells (.slice a n c))) := k.store rfl Tryd.sizeP6 (p.one a n c)
theorem sto60 {w : World} {R : Nat} (k : Blk w R 39 #[.int .i64 0, .int .i64 0, .int .i64 0, .int .i64 0, .int .i64 0, .int .i64 0, .int .i64 0, .int .i64 0, .int .i64 0, .int .i64 0, .int .i64 0, .int .i64 0, .int .i64 0, .int .i64 0, .int .i64 0, .int .i64 0, .int .i64 0, .int .i64 0, .slice none 0 0]) :
    (Instr.storeAt 39 (.pointer (some ⟨R, 0, none⟩)) (.agg #[.int .i64 0, .int .i64 0, .int .i64 0, .int .i64 0, .int .i64 0, .int .i64 0, .int .i64 0, .int .i64 0, .int .i64 0, .int .i64 0, .int .i64 0, .int .i64 0, .int .i64 0, .int .i64 0, .int .i64 0, .int .i64 0, .int .i64 0, .int .i64 0, .slice none 0 0])).run Tryd.prog w = .ok () (w.setRow R #[.int .i64 0, .int .i64 0, .int .i64 0, .int .i64 0, .int .i64 0, .int .i64 0, .int .i64 0, .int .i64 0, .int .i64 0, .int .i64 0, .int .i64 0, .int .i64 0, .int .i64 0, .int .i64 0, .int .i64 0, .int .i64 0, .int .i64 0, .int .i64 0, .slice none 0 0]) := k.store rfl Tryd.sizeP6 (by simp [Value.oneCell'])
/-- What Decode gives of bytes that are no packet. -/
def Bad6 (e : Ending) : Prop := e = .returned (.tuple #[.agg #[.int .i64 0, .int .i64 0, .int .i64 0, .int .i64 0, .int .i64 0, .int .i64 0, .int .i64 0, .int .i64 0, .int .i64 0, .int .i64 0, .int .i64 0, .int .i64 0, .int .i64 0, .int .i64 0, .int .i64 0, .int .i64 0, .int .i64 0, .int .i64 0, .slice none 0 0], errv 5])

set_option maxRecDepth 100000 in
set_option maxHeartbeats 1000000 in
theorem decode6_bad (a : Option Addr) (n c : Nat) (xs : List Int) (w : World) (hr : Ints .u8 w a n xs) (hb : Pl.IsB xs) (h : ¬ Pl.Is6 xs) :
    Calls Tryd.prog 21 #[.slice a n c] w fun e w' => Bad6 e ∧ Ext w w' := by
  have KR := Blk.new w 39 #[.int .i64 0, .int .i64 0, .int .i64 0, .int .i64 0, .int .i64 0, .int .i64 0, .int .i64 0, .int .i64 0, .int .i64 0, .int .i64 0, .int .i64 0, .int .i64 0, .int .i64 0, .int .i64 0, .int .i64 0, .int .i64 0, .int .i64 0, .int .i64 0, .slice none 0 0]
  have E0 : Ext w (w.alloc (.cells #[.int .i64 0, .int .i64 0, .int .i64 0, .int .i64 0, .int .i64 0, .int .i64 0, .int .i64 0, .int .i64 0, .int .i64 0, .int .i64 0, .int .i64 0, .int .i64 0, .int .i64 0, .int .i64 0, .int .i64 0, .int .i64 0, .int .i64 0, .int .i64 0, .slice none 0 0] 39)) := (Ext.refl w).alloc _
  have hlen := hr.len
  by_cases g0 : n < 40
  case pos =>
    have g0' : decide ((n : Int) < 40) = true := by simp; omega
    clear h
    go_enter Tryd.func21, Tryd.ntmps21
    go_upto_region 1 with (fail)
    go_quiet (fail)
    have s0 := sto60 (KR.drewN nq)
    go_wp2_with ((apply store_by rfl _ _ _ rfl _ rfl); (focus (with_reducible assumption)); (focus rfl))
    refine bodyPost_ret (results_cell2 Tryd.results21 _ _ w.heap.size 39 #[.int .i64 0, .int .i64 0, .int .i64 0, .int .i64 0, .int .i64 0, .int .i64 0, .int .i64 0, .int .i64 0, .int .i64 0, .int .i64 0, .int .i64 0, .int .i64 0, .int .i64 0, .int .i64 0, .int .i64 0, .int .i64 0, .int .i64 0, .int .i64 0, .slice none 0 0] _ rfl ((KR.drewN nq).row _) Tryd.underlying39 rfl Tryd.sizeP6) rfl ⟨rfl, (E0.drewN nq).row (Nat.le_refl _) _⟩
  have g0' : decide ((n : Int) < 40) = false := by simp; omega
  have HLEN := Lib.hid hlen
  by_cases g1 : 360 < n
  case pos =>
    have g1' : decide ((360 : Int) < (n : Int)) = true := by simp; omega
    clear h
    go_enter Tryd.func21, Tryd.ntmps21
    go_upto_region 1 with (fail)
    go_quiet (fail)
    have s0 := sto60 (KR.drewN nq)
    go_wp2_with ((apply store_by rfl _ _ _ rfl _ rfl); (focus (with_reducible assumption)); (focus rfl))
    refine bodyPost_ret (results_cell2 Tryd.results21 _ _ w.heap.size 39 #[.int .i64 0, .int .i64 0, .int .i64 0, .int .i64 0, .int .i64 0, .int .i64 0, .int .i64 0, .int .i64 0, .int .i64 0, .int .i64 0, .int .i64 0, .int .i64 0, .int .i64 0, .int .i64 0, .int .i64 0, .int .i64 0, .int .i64 0, .int .i64 0, .slice none 0 0] _ rfl ((KR.drewN nq).row _) Tryd.underlying39 rfl Tryd.sizeP6) rfl ⟨rfl, (E0.drewN nq).row (Nat.le_refl _) _⟩
  have g1' : decide ((360 : Int) < (n : Int)) = false := by simp; omega
  obtain ⟨b, off, rfl, hbl, hc⟩ := hr.at (by omega)
  have c0 : w.cell? ⟨b, off, none⟩ = _ := hc 0 (by omega)
  have c1 := hc 1 (by omega)
  have c2 := hc 2 (by omega)
  have c3 := hc 3 (by omega)
  have c4 := hc 4 (by omega)
  have c5 := hc 5 (by omega)
  have x1 := hb.getD 1
  have x2 := hb.getD 2
  have x3 := hb.getD 3
  have x4 := hb.getD 4
  have x5 := hb.getD 5
  have l0 : (0 : Int) < (n : Int) := by omega
  have l1 : (1 : Int) < (n : Int) := by omega
  have l2 : (2 : Int) < (n : Int) := by omega
  have l3 : (3 : Int) < (n : Int) := by omega
  have l4 : (4 : Int) < (n : Int) := by omega
  have l5 : (5 : Int) < (n : Int) := by omega
  have hnot : ¬ (xs.getD 0 0 = 96 ∧ (xs.getD 1 0 = 0 ∧ xs.getD 2 0 = 0 ∧ xs.getD 3 0 = 0) ∧ xs.getD 4 0 * 256 + xs.getD 5 0 = (n : Int) - 40) := fun hh => h ⟨by rw [hlen]; omega, hh.1, hh.2.1, by rw [hh.2.2, hlen]⟩
  have HNOT := Lib.hid hnot
  clear hc h hnot hr hb hlen
  generalize xs.getD 0 0 = X0 at *
  generalize xs.getD 1 0 = X1 at *
  generalize xs.getD 2 0 = X2 at *
  generalize xs.getD 3 0 = X3 at *
  generalize xs.getD 4 0 = X4 at *
  generalize xs.getD 5 0 = X5 at *
  by_cases g2 : X0 = 96
  case neg =>
    have g2' : (X0 != 96) = true := by simpa using g2
    clear g2 c1 c2 c3 c4 c5
    go_enter Tryd.func21, Tryd.ntmps21
    go_upto_region 1 with (fail)
    go_quiet (fail)
    have s0 := sto60 (KR.drewN nq)
    go_wp2_with ((apply store_by rfl _ _ _ rfl _ rfl); (focus (with_reducible assumption)); (focus rfl))
    refine bodyPost_ret (results_cell2 Tryd.results21 _ _ w.heap.size 39 #[.int .i64 0, .int .i64 0, .int .i64 0, .int .i64 0, .int .i64 0, .int .i64 0, .int .i64 0, .int .i64 0, .int .i64 0, .int .i64 0, .int .i64 0, .int .i64 0, .int .i64 0, .int .i64 0, .int .i64 0, .int .i64 0, .int .i64 0, .int .i64 0, .slice none 0 0] _ rfl ((KR.drewN nq).row _) Tryd.underlying39 rfl Tryd.sizeP6) rfl ⟨rfl, (E0.drewN nq).row (Nat.le_refl _) _⟩
  have g2' : (X0 != 96) = false := by simpa using g2
  have h3 := or3 x1 x2 x3
  by_cases g3 : X1 = 0 ∧ X2 = 0 ∧ X3 = 0
  case neg =>
    have g3' : (bits .or .u8 (bits .or .u8 X1 X2) X3 != 0) = true := by
      rw [bne_iff_ne]
      exact fun e => g3 (h3.1 e)
    clear g2 g3 c4 c5 h3
    go_enter Tryd.func21, Tryd.ntmps21
    go_upto_region 1 with (fail)
    go_quiet (fail)
    have s0 := sto60 (KR.drewN nq)
    go_wp2_with ((apply store_by rfl _ _ _ rfl _ rfl); (focus (with_reducible assumption)); (focus rfl))
    refine bodyPost_ret (results_cell2 Tryd.results21 _ _ w.heap.size 39 #[.int .i64 0, .int .i64 0, .int .i64 0, .int .i64 0, .int .i64 0, .int .i64 0, .int .i64 0, .int .i64 0, .int .i64 0, .int .i64 0, .int .i64 0, .int .i64 0, .int .i64 0, .int .i64 0, .int .i64 0, .int .i64 0, .int .i64 0, .int .i64 0, .slice none 0 0] _ rfl ((KR.drewN nq).row _) Tryd.underlying39 rfl Tryd.sizeP6) rfl ⟨rfl, (E0.drewN nq).row (Nat.le_refl _) _⟩
  have g3' : (bits .or .u8 (bits .or .u8 X1 X2) X3 != 0) = false := by rw [h3.2 g3]; rfl
  have g4 : (X4 * 256 + X5 != (n : Int) - 40) = true := by
    rw [bne_iff_ne]
    exact fun e => HNOT.out ⟨g2, g3, e⟩
  obtain ⟨x40, x41⟩ := x4
  obtain ⟨x50, x51⟩ := x5
  have eor : bits BinOp.or IntKind.i64 (X4 * 256) X5 = X4 * 256 + X5 := or8 (by omega) (by omega) (by omega) (by omega) (by omega)
  have ew4 : IntKind.i64.wrap X4 = X4 := IntWalk.i64_in _ (by omega)
  have ew5 : IntKind.i64.wrap X5 = X5 := IntWalk.i64_in _ (by omega)
  have ew6 : IntKind.i64.wrap (X4 * 256) = X4 * 256 := IntWalk.i64_in _ (by omega)
  have ew7 : IntKind.i64.wrap ((n : Int) - 40) = (n : Int) - 40 := IntWalk.i64_in _ (by omega)
  clear g2 g3 h3 x1 x2 x3
  go_enter Tryd.func21, Tryd.ntmps21
  go_upto_region 1 with (fail)
  go_quiet (fail)
  have s0 := sto60 (KR.drewN nq)
  go_wp2_with ((apply store_by rfl _ _ _ rfl _ rfl); (focus (with_reducible assumption)); (focus rfl))
  refine bodyPost_ret (results_cell2 Tryd.results21 _ _ w.heap.size 39 #[.int .i64 0, .int .i64 0, .int .i64 0, .int .i64 0, .int .i64 0, .int .i64 0, .int .i64 0, .int .i64 0, .int .i64 0, .int .i64 0, .int .i64 0, .int .i64 0, .int .i64 0, .int .i64 0, .int .i64 0, .int .i64 0, .int .i64 0, .int .i64 0, .slice none 0 0] _ rfl ((KR.drewN nq).row _) Tryd.underlying39 rfl Tryd.sizeP6) rfl ⟨rfl, (E0.drewN nq).row (Nat.le_refl _) _⟩
end Go.Proofs.YtlgdmipejgggkaaDoor
