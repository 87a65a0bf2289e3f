/- Packets of sixes: their cells, their fault, the contract of ip6.Check. Conditions: as each theorem states them. -/
import Derived.Test.YtoaahiclmodcgaaSixS
import Derived.Test.YtoaahiclmodcgaaErv
namespace Go.Proofs.Ytoaahiclmodcgaa
open Go.RowKit
/-- A packet's addresses and numbers. -/
structure P6 where
  src : Six
  dst : Six
  hop : Int
  kind : Int
def P6.cells (p : P6) (b : Value) : Array Value := #[.int .i64 p.src.x0, .int .i64 p.src.x1, .int .i64 p.src.x2, .int .i64 p.src.x3, .int .i64 p.src.x4, .int .i64 p.src.x5, .int .i64 p.src.x6, .int .i64 p.src.x7, .int .i64 p.dst.x0, .int .i64 p.dst.x1, .int .i64 p.dst.x2, .int .i64 p.dst.x3, .int .i64 p.dst.x4, .int .i64 p.dst.x5, .int .i64 p.dst.x6, .int .i64 p.dst.x7, .int .i64 p.hop, .int .i64 p.kind, b]
abbrev P6.v (p : P6) (b : Value) : Value := .agg (p.cells b)
def b8 (n : Int) : Bool := decide (0 ≤ n) && decide (n ≤ 255)
theorem b8_yes {n : Int} (h : b8 n = true) : 0 ≤ n ∧ n ≤ 255 := by unfold b8 at h; simpa using h
theorem b8_no {n : Int} (h : b8 n = false) : n < 0 ∨ (0 ≤ n ∧ 255 < n) := by unfold b8 at h; simp at h; omega
def P6.good (p : P6) : Bool := okS p.src && okS p.dst && b8 p.hop && b8 p.kind
/-- What is wrong with a packet of n bytes. -/
def P6.fault (p : P6) (n : Nat) : Int := if p.good = true then (if n ≤ 320 then 0 else 3) else 1
theorem Try.sizeP6 : (Try.prog.info? 55).map (·.size) = some 19 := by kernel_rfl
section
variable {w : World} {g : Nat} {t : TypeId} {p : P6} {b : Value}
theorem Blk.p6 (h : Blk w g t (p.cells b)) : (Instr.loadAt 55 (.pointer (some ⟨g, 0, none⟩))).run Try.prog w = .ok (.agg (p.cells b)) w := by
  have := run_loadAt_mid (P := Try.prog) w g 0 55 (p.cells b).toList _ (fun j v hv => by
    rw [Array.getElem?_toList] at hv
    rw [h.cells, Nat.zero_add]; exact hv) Try.underlying55 rfl Try.sizeP6
  rw [Array.toArray_toList] at this
  exact this
theorem Blk.p6src (h : Blk w g t (p.cells b)) : (Instr.loadAt 23 (.pointer (some ⟨g, 0, none⟩))).run Try.prog w = .ok (.agg p.src.cells) w :=
  h.six 0 p.src fun j hj => by
    have h : j = 0 ∨ j = 1 ∨ j = 2 ∨ j = 3 ∨ j = 4 ∨ j = 5 ∨ j = 6 ∨ j = 7 := by omega
    rcases h with rfl | rfl | rfl | rfl | rfl | rfl | rfl | rfl <;> rfl
theorem Blk.p6dst (h : Blk w g t (p.cells b)) : (Instr.loadAt 23 (.pointer (some ⟨g, 8, none⟩))).run Try.prog w = .ok (.agg p.dst.cells) w :=
  h.six 8 p.dst fun j hj => by
    have h : j = 0 ∨ j = 1 ∨ j = 2 ∨ j = 3 ∨ j = 4 ∨ j = 5 ∨ j = 6 ∨ j = 7 := by omega
    rcases h with rfl | rfl | rfl | rfl | rfl | rfl | rfl | rfl <;> rfl
theorem Blk.p6nums (h : Blk w g t (p.cells b)) : w.cell? ⟨g, 16, none⟩ = some (.int .i64 p.hop) ∧ w.cell? ⟨g, 17, none⟩ = some (.int .i64 p.kind) ∧ w.cell? ⟨g, 18, none⟩ = some b := ⟨h.cells 16, h.cells 17, h.cells 18⟩
end
theorem P6.fault_bad {p : P6} {n : Nat} (h : p.good = false) : p.fault n = 1 := by unfold P6.fault; rw [h]; rfl
theorem P6.fault_full {p : P6} {n : Nat} (h : p.good = true) (hn : ¬ n ≤ 320) : p.fault n = 3 := by unfold P6.fault; rw [h, if_pos rfl, if_neg hn]
theorem P6.fault_none {p : P6} {n : Nat} (h : p.good = true) (hn : n ≤ 320) : p.fault n = 0 := by unfold P6.fault; rw [h, if_pos rfl, if_pos hn]
theorem P6.fault_zero {p : P6} {n : Nat} (h : p.fault n = 0) : p.good = true ∧ n ≤ 320 := by
  unfold P6.fault at h
  by_cases hg : p.good = true
  · rw [if_pos hg] at h
    by_cases hn : n ≤ 320
    · exact ⟨hg, hn⟩
    · rw [if_neg hn] at h; omega
  · rw [if_neg hg] at h; omega
theorem P6.good_all {p : P6} (h : p.good = true) : okS p.src = true ∧ okS p.dst = true ∧ (0 ≤ p.hop ∧ p.hop ≤ 255) ∧ (0 ≤ p.kind ∧ p.kind ≤ 255) := by
  unfold P6.good at h
  simp only [Bool.and_eq_true] at h
  exact ⟨h.1.1.1, h.1.1.2, b8_yes h.1.2, b8_yes h.2⟩

set_option maxRecDepth 100000 in
set_option maxHeartbeats 4000000 in
theorem check6p_any (p : P6) (a : Option Addr) (n c : Nat) (w : World) :
    Calls Try.prog 34 #[p.v (.slice a n c)] w fun e w' => e = .returned (erv (p.fault n)) ∧ Ext w w' := by
  have K0 := Blk.new w 55 (p.cells (.slice a n c))
  have E0 : Ext w (w.alloc (.cells (p.cells (.slice a n c)) 55)) := (Ext.refl w).alloc _
  have l0s := K0.p6src
  cases hs : okS p.src
  case false =>
    rw [P6.fault_bad (show p.good = false by unfold P6.good; rw [hs]; rfl)]
    have HS := Lib.hid hs
    clear hs
    go_enter Try.func34, Try.ntmps34
    go_wp2_with ((apply load_by rfl _ _ rfl _ rfl); (focus (with_reducible assumption)))
    refine (check6_no p.src _ HS.out).mono ?_
    rintro e W1 ⟨rfl, q1⟩
    unfold errv
    go_wp2_with fail
    go_ret
    exact ⟨rfl, E0.trans q1⟩
  have HS := Lib.hid hs
  cases hd : okS p.dst
  case false =>
    rw [P6.fault_bad (show p.good = false by unfold P6.good; rw [hs, hd]; rfl)]
    have HD := Lib.hid hd
    clear hs hd
    go_enter Try.func34, Try.ntmps34
    go_wp2_with ((apply load_by rfl _ _ rfl _ rfl); (focus (with_reducible assumption)))
    refine (check6_yes p.src _ HS.out).mono ?_
    rintro e W1 ⟨rfl, q1⟩
    have l1d := (K0.ext q1).p6dst
    clear l0s
    go_wp2_with ((apply load_by rfl _ _ rfl _ rfl); (focus (with_reducible assumption)))
    refine (check6_no p.dst _ HD.out).mono ?_
    rintro e W2 ⟨rfl, q2⟩
    unfold errv
    go_wp2_with fail
    go_ret
    exact ⟨rfl, (E0.trans q1).trans q2⟩
  have HD := Lib.hid hd
  cases hh : b8 p.hop
  case false =>
    rw [P6.fault_bad (show p.good = false by unfold P6.good; rw [hs, hd, hh]; rfl)]
    clear hs hd
    rcases b8_no hh with hh' | ⟨hh', hh2⟩
    all_goals
      clear hh
      go_enter Try.func34, Try.ntmps34
      go_wp2_with ((apply load_by rfl _ _ rfl _ rfl); (focus (with_reducible assumption)))
      refine (check6_yes p.src _ HS.out).mono ?_
      rintro e W1 ⟨rfl, q1⟩
      have l1d := (K0.ext q1).p6dst
      clear l0s
      go_wp2_with ((apply load_by rfl _ _ rfl _ rfl); (focus (with_reducible assumption)))
      refine (check6_yes p.dst _ HD.out).mono ?_
      rintro e W2 ⟨rfl, q2⟩
      obtain ⟨m0, m1, m2⟩ := ((K0.ext q1).ext q2).p6nums
      go_wp2_with fail
      go_ret
      exact ⟨rfl, (E0.trans q1).trans q2⟩
  obtain ⟨h0, h1⟩ := b8_yes hh
  cases hk : b8 p.kind
  case false =>
    rw [P6.fault_bad (show p.good = false by unfold P6.good; rw [hs, hd, hh, hk]; rfl)]
    clear hs hd hh
    rcases b8_no hk with hh' | ⟨hh', hh2⟩
    all_goals
      clear hk
      go_enter Try.func34, Try.ntmps34
      go_wp2_with ((apply load_by rfl _ _ rfl _ rfl); (focus (with_reducible assumption)))
      refine (check6_yes p.src _ HS.out).mono ?_
      rintro e W1 ⟨rfl, q1⟩
      have l1d := (K0.ext q1).p6dst
      clear l0s
      go_wp2_with ((apply load_by rfl _ _ rfl _ rfl); (focus (with_reducible assumption)))
      refine (check6_yes p.dst _ HD.out).mono ?_
      rintro e W2 ⟨rfl, q2⟩
      obtain ⟨m0, m1, m2⟩ := ((K0.ext q1).ext q2).p6nums
      go_wp2_with fail
      go_ret
      exact ⟨rfl, (E0.trans q1).trans q2⟩
  obtain ⟨k0, k1⟩ := b8_yes hk
  have hg : p.good = true := by unfold P6.good; rw [hs, hd, hh, hk]; rfl
  clear hs hd hh hk
  by_cases hn : n ≤ 320
  case' pos => rw [P6.fault_none hg hn]; have hn' : ¬ (320 : Int) < (n : Int) := by omega
  case' neg => rw [P6.fault_full hg hn]; have hn' : (320 : Int) < (n : Int) := by omega
  all_goals
    clear hg
    go_enter Try.func34, Try.ntmps34
    go_wp2_with ((apply load_by rfl _ _ rfl _ rfl); (focus (with_reducible assumption)))
    refine (check6_yes p.src _ HS.out).mono ?_
    rintro e W1 ⟨rfl, q1⟩
    have l1d := (K0.ext q1).p6dst
    clear l0s
    go_wp2_with ((apply load_by rfl _ _ rfl _ rfl); (focus (with_reducible assumption)))
    refine (check6_yes p.dst _ HD.out).mono ?_
    rintro e W2 ⟨rfl, q2⟩
    obtain ⟨m0, m1, m2⟩ := ((K0.ext q1).ext q2).p6nums
    go_wp2_with fail
    go_ret
    exact ⟨rfl, (E0.trans q1).trans q2⟩
end Go.Proofs.Ytoaahiclmodcgaa
