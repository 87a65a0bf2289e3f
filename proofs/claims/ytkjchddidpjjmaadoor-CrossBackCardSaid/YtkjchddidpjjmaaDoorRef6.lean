/- The document's answers on packets of sixes: Fault6, Encoded6, word. Conditions: as each theorem states them. -/
import Derived.Test.YtkjchddidpjjmaaDoorRef4
import Derived.Test.YtkjchddidpjjmaaDoorIp6e
import Derived.Test.YtkjchddidpjjmaaDoorOver6
import Derived.BigQuiet
namespace Go.Proofs.YtkjchddidpjjmaaDoor
open Go.RowKit

set_option maxRecDepth 100000 in
set_option maxHeartbeats 2000000 in
theorem rfault6_any (p : P6) (a : Option Addr) (n c : Nat) (w : World) :
    Calls Tryd.prog 75 #[p.v (.slice a n c)] w fun e w' => e = .returned (.int .i64 (p.fault n)) ∧ Ext w w' := by
  have K0 := Blk.new w 72 (p.cells (.slice a n c))
  have E0 : Ext w (w.alloc (.cells (p.cells (.slice a n c)) 72)) := (Ext.refl w).alloc _
  have l0s := K0.p6src
  obtain ⟨m0, m1, m2⟩ := K0.p6nums
  obtain ⟨bh, hbh⟩ : ∃ b, b8 p.hop = b := ⟨_, rfl⟩
  obtain ⟨bk, hbk⟩ : ∃ b, b8 p.kind = b := ⟨_, rfl⟩
  obtain ⟨bs, hbs⟩ : ∃ b, okS p.src = b := ⟨_, rfl⟩
  obtain ⟨bd, hbd⟩ : ∃ b, okS p.dst = b := ⟨_, rfl⟩
  have hg : p.good = (bs && bd && bh && bk) := by unfold P6.good; rw [hbs, hbd, hbh, hbk]
  have HW := Lib.hid (fun W => (show Calls Tryd.prog 94 #[.int .i64 p.hop] W (fun e w' => e = .returned (.bool bh) ∧ W = w') from hbh ▸ isByte_any p.hop W))
  have HK := Lib.hid (fun W => (show Calls Tryd.prog 94 #[.int .i64 p.kind] W (fun e w' => e = .returned (.bool bk) ∧ W = w') from hbk ▸ isByte_any p.kind W))
  have HS := Lib.hid hbs
  have HD := Lib.hid hbd
  have HG := Lib.hid hg
  clear hbh hbk hbs hbd hg
  go_enter Tryd.func75, Tryd.ntmps75
  go_wp2_with fail
  refine (HW.out _).mono ?_
  rintro e w' ⟨rfl, rfl⟩
  go_wp2_with fail
  refine (HK.out _).mono ?_
  rintro e w' ⟨rfl, rfl⟩
  cases bs
  case false =>
    go_wp2_with ((apply load_by rfl _ _ rfl _ rfl); (focus (with_reducible assumption)))
    refine (sixf_no p.src _ HS.out).mono ?_
    rintro e W1 ⟨rfl, q1⟩
    go_wp2_with fail
    go_ret
    exact ⟨by rw [P6.fault_bad (show p.good = false by rw [HG.out]; rfl)]; first | done | rfl, E0.trans q1⟩
  go_wp2_with ((apply load_by rfl _ _ rfl _ rfl); (focus (with_reducible assumption)))
  refine (sixf_yes p.src _ HS.out).mono ?_
  rintro e W1 ⟨rfl, q1⟩
  have l1d := (K0.ext q1).p6dst
  clear l0s
  cases bd
  case false =>
    go_wp2_with ((apply load_by rfl _ _ rfl _ rfl); (focus (with_reducible assumption)))
    refine (sixf_no p.dst _ HD.out).mono ?_
    rintro e W2 ⟨rfl, q2⟩
    go_wp2_with fail
    go_ret
    exact ⟨by rw [P6.fault_bad (show p.good = false by rw [HG.out]; rfl)]; first | done | rfl, (E0.trans q1).trans q2⟩
  go_wp2_with ((apply load_by rfl _ _ rfl _ rfl); (focus (with_reducible assumption)))
  refine (sixf_yes p.dst _ HD.out).mono ?_
  rintro e W2 ⟨rfl, q2⟩
  obtain ⟨k0, k1, k2⟩ := ((K0.ext q1).ext q2).p6nums
  cases bh
  case false =>
    go_wp2_with fail
    go_ret
    exact ⟨by rw [P6.fault_bad (show p.good = false by rw [HG.out]; rfl)]; first | done | rfl, (E0.trans q1).trans q2⟩
  cases bk
  case false =>
    go_wp2_with fail
    go_ret
    exact ⟨by rw [P6.fault_bad (show p.good = false by rw [HG.out]; rfl)]; first | done | rfl, (E0.trans q1).trans q2⟩
  by_cases hn : n ≤ 320
  · skip
    have hn' : ¬ (320 : Int) < (n : Int) := by omega
    go_wp2_with fail
    go_ret
    exact ⟨by rw [P6.fault_none HG.out hn]; first | done | rfl, (E0.trans q1).trans q2⟩
  · skip
    have hn' : (320 : Int) < (n : Int) := by omega
    go_wp2_with fail
    go_ret
    exact ⟨by rw [P6.fault_full HG.out hn]; first | done | rfl, (E0.trans q1).trans q2⟩

set_option maxHeartbeats 1000000 in
theorem rword_any (b off n c k : Nat) (i : Int) (hi : i = k) (x y : Int) (w : World) (hn : k + 1 < n) (hn2 : n ≤ 100000) (h0 : w.cell? ⟨b, off + k, none⟩ = some (.int .u8 x)) (h1 : w.cell? ⟨b, off + (k + 1), none⟩ = some (.int .u8 y)) (hx : 0 ≤ x ∧ x ≤ 255) (hy : 0 ≤ y ∧ y ≤ 255) :
    Calls Tryd.prog 68 #[.slice (some ⟨b, off, none⟩) n c, .int .i64 i] w fun e w' => e = .returned (.int .i64 (x * 256 + y)) ∧ ∃ q, w' = w.drewN q := by
  subst hi
  obtain ⟨x0, x1⟩ := hx
  obtain ⟨y0, y1⟩ := hy
  have l0 : (k : Int) < (n : Int) := by omega
  have l1 : (k : Int) + 1 < (n : Int) := by omega
  have e1 : IntKind.i64.wrap x = x := IntWalk.i64_in _ (by omega)
  have e2 : IntKind.i64.wrap y = y := IntWalk.i64_in _ (by omega)
  have e3 : IntKind.i64.wrap (256 * x) = 256 * x := IntWalk.i64_in _ (by omega)
  have e4 : IntKind.i64.wrap (256 * x + y) = 256 * x + y := IntWalk.i64_in _ (by omega)
  have e5 : IntKind.i64.wrap ((k : Int) + 1) = (k : Int) + 1 := IntWalk.i64_in _ (by omega)
  have e6 : ((k : Int) + 1).toNat = k + 1 := by omega
  go_enter Tryd.func68, Tryd.ntmps68
  go_wp2_with fail
  go_quiet (fail)
  go_wp2_with fail
  go_ret
  exact ⟨ret_int (by omega), nq, rfl⟩
end Go.Proofs.YtkjchddidpjjmaaDoor
