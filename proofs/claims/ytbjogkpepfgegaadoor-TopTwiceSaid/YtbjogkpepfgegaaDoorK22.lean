/- Lemmas of this seat, bound together: Emb5 RefE Port2 Port3 PortA RPort Kp. Conditions: as each lemma states them. -/
import Derived.Test.YtbjogkpepfgegaaDoorK18
import Derived.Test.YtbjogkpepfgegaaDoorK08
import Derived.Test.YtbjogkpepfgegaaDoorK03
import Derived.Test.YtbjogkpepfgegaaDoorK19
import Derived.Test.YtbjogkpepfgegaaDoorK00
import Derived.Test.YtbjogkpepfgegaaDoorK16
import Derived.Deep.DeepCutAuto
import Derived.Test.YtbjogkpepfgegaaDoorK04
namespace Go.Proofs.YtbjogkpepfgegaaDoor
open Go.RowKit Go.Shelf
namespace Pl
def intoErr (s : Six) (n four : Int) : Int := if pfxErr s n = 0 then (if 0 ≤ four ∧ four < 4294967296 then 0 else 1) else pfxErr s n
def into (s : Six) (n f : Int) : Six := if intoErr s n f = 0 then sixAt (put (two s.l) (four f) (spots (n / 8).toNat)) else ⟨0, 0, 0, 0, 0, 0, 0, 0⟩
theorem pfx_zero {s : Six} {n : Int} (h : pfxErr s n = 0) : okS s = true ∧ longB n = true ∧ clean (two s.l) n := by
  unfold pfxErr at h
  by_cases h1 : okS s = true
  · rw [if_pos h1] at h
    by_cases h2 : longB n = true
    · rw [if_pos h2] at h
      by_cases h3 : clean (two s.l) n
      · exact ⟨h1, h2, h3⟩
      · rw [if_neg h3] at h; exact absurd h (by decide)
    · rw [if_neg h2] at h; exact absurd h (by decide)
  · rw [if_neg h1] at h; exact absurd h (by decide)
theorem longB_nat {n : Int} (h : longB n = true) : ∃ m : Nat, 4 ≤ m ∧ m ≤ 12 ∧ n = 8 * (m : Int) ∧ (n / 8).toNat = m := by
  have hn := longB_yes h
  exact ⟨(n / 8).toNat, by omega, by omega, by omega, rfl⟩
end Pl
set_option maxRecDepth 100000 in
set_option maxHeartbeats 1000000 in
theorem into_no (s : Six) (n four : Int) (w : World) (h : Pl.intoErr s n four ≠ 0) :
    Calls Tryd.prog 7 #[s.v, .int .i64 n, .int .i64 four] w fun e w' => e = .returned (.tuple #[(⟨0, 0, 0, 0, 0, 0, 0, 0⟩ : Six).v, erv (Pl.intoErr s n four)]) ∧ Ext w w' := by
  have K0 := (Blk.new w 23 s.cells).alloc (.cells zc6 23)
  have KR := Blk.at (n := w.heap.size + 1) (w.alloc (.cells s.cells 23)) 23 zc6 (by simp)
  have E0 : Ext w ((w.alloc (.cells s.cells 23)).alloc (.cells zc6 23)) := ((Ext.refl w).alloc _).alloc _
  have l0 := K0.six0
  have hc := fun W => echeck_any s n W
  by_cases hp : Pl.pfxErr s n = 0
  · have hf : ¬ (0 ≤ four ∧ four < 4294967296) := fun hf => h (by unfold Pl.intoErr; rw [if_pos hp, if_pos hf])
    have hE : Pl.intoErr s n four = 1 := by unfold Pl.intoErr; rw [if_pos hp, if_neg hf]
    simp only [hp, erv_zero] at hc
    have HC := Lib.hid hc
    have HF := Lib.hid hf
    have HE := Lib.hid hE
    clear hc hp hf hE h
    go_enter Tryd.func7, Tryd.ntmps7
    go_wp2_with ((apply load_by rfl _ _ rfl _ rfl); (focus (with_reducible assumption)))
    refine (HC.out _).mono ?_
    rintro e W1 ⟨rfl, q1⟩
    have R1 := KR.ext q1
    have E1 := E0.trans q1
    clear l0 K0 KR E0 q1
    go_wp2_with fail
    refine (is_no four _ HF.out).mono ?_
    rintro e w' ⟨rfl, rfl⟩
    have s6 : (Instr.storeAt 23 (.pointer (some ⟨w.heap.size + 1, 0, none⟩)) (.agg zc6)).run Tryd.prog W1 = .ok () (W1.setRow (w.heap.size + 1) zc6) := R1.store rfl Tryd.size6 (by simp [Value.oneCell'])
    go_wp2_with ((apply store_by rfl _ _ _ rfl _ rfl); (focus (with_reducible assumption)); (focus rfl))
    refine bodyPost_ret (results_cell2 Tryd.results7 _ _ (w.heap.size + 1) 23 zc6 _ rfl (R1.row zc6) Tryd.underlying23 rfl Tryd.size6) rfl ⟨by rw [HE.out]; rfl, E1.row (by omega) _⟩
  · have hE : Pl.intoErr s n four = Pl.pfxErr s n := by unfold Pl.intoErr; rw [if_neg hp]
    simp only [erv_ne hp] at hc
    rw [hE, erv_ne hp]
    have HC := Lib.hid hc
    generalize Pl.pfxErr s n = q at *
    clear hc hp hE h
    go_enter Tryd.func7, Tryd.ntmps7
    go_wp2_with ((apply load_by rfl _ _ rfl _ rfl); (focus (with_reducible assumption)))
    refine (HC.out _).mono ?_
    rintro e W1 ⟨rfl, q1⟩
    have R1 := KR.ext q1
    have E1 := E0.trans q1
    clear l0 K0 KR E0 q1
    have s6 : (Instr.storeAt 23 (.pointer (some ⟨w.heap.size + 1, 0, none⟩)) (.agg zc6)).run Tryd.prog W1 = .ok () (W1.setRow (w.heap.size + 1) zc6) := R1.store rfl Tryd.size6 (by simp [Value.oneCell'])
    unfold errv
    go_wp2_with ((apply store_by rfl _ _ _ rfl _ rfl); (focus (with_reducible assumption)); (focus rfl))
    refine bodyPost_ret (results_cell2 Tryd.results7 _ _ (w.heap.size + 1) 23 zc6 _ rfl (R1.row zc6) Tryd.underlying23 rfl Tryd.size6) rfl ⟨rfl, E1.row (by omega) _⟩
/-- Into, of any arguments. -/
theorem into_any (s : Six) (n four : Int) (w : World) :
    Calls Tryd.prog 7 #[s.v, .int .i64 n, .int .i64 four] w fun e w' => e = .returned (.tuple #[(Pl.into s n four).v, erv (Pl.intoErr s n four)]) ∧ Ext w w' := by
  by_cases h : Pl.intoErr s n four = 0
  · have hp : Pl.pfxErr s n = 0 := by
      unfold Pl.intoErr at h
      by_cases hp : Pl.pfxErr s n = 0
      · exact hp
      · rw [if_neg hp] at h; exact absurd h hp
    have hf : 0 ≤ four ∧ four < 4294967296 := by
      unfold Pl.intoErr at h
      rw [if_pos hp] at h
      by_cases hf : 0 ≤ four ∧ four < 4294967296
      · exact hf
      · rw [if_neg hf] at h; exact absurd h (by decide)
    have hi : Pl.into s n four = sixAt (Pl.put (Pl.two s.l) (Pl.four four) (Pl.spots (n / 8).toNat)) := by unfold Pl.into; rw [if_pos h]
    obtain ⟨hs, hl, _⟩ := Pl.pfx_zero hp
    obtain ⟨m, h4, h12, hn, hm⟩ := Pl.longB_nat hl
    rw [h, hi, hm]
    subst hn
    exact into_ok s m four w hs ⟨h4, h12⟩ hp hf
  · have hi : Pl.into s n four = ⟨0, 0, 0, 0, 0, 0, 0, 0⟩ := by unfold Pl.into; rw [if_neg h]
    rw [hi]
    exact into_no s n four w h
/-- Out, of any arguments. -/
theorem out_any (s : Six) (n : Int) (w : World) :
    Calls Tryd.prog 62 #[s.v, .int .i64 n] w fun e w' => e = .returned (.tuple #[.int .i64 (Pl.outVal s n), erv (Pl.outErr s n)]) ∧ Ext w w' := by
  by_cases h : okS s = true ∧ Pl.longB n = true
  · obtain ⟨m, h4, h12, hn, _⟩ := Pl.longB_nat h.2
    obtain ⟨hs, hl⟩ := h
    subst hn
    exact out_ok s m w hs ⟨h4, h12⟩ hl
  · have he : Pl.outErr s n = 1 := by
      unfold Pl.outErr
      by_cases hs : okS s = true
      · rw [if_pos hs, if_neg (fun hl => h ⟨hs, hl⟩)]
      · rw [if_neg hs]
    have hv : Pl.outVal s n = 0 := by unfold Pl.outVal; rw [he]; rfl
    rw [he, hv]
    exact out_no s n w h
end Go.Proofs.YtbjogkpepfgegaaDoor
namespace Go.Proofs.YtbjogkpepfgegaaDoor
open Go.RowKit
theorem sixE_yes {s : Six} (h : okS s = true) : sixE s = 0 := by unfold sixE; rw [if_pos (show words s.l = true from h)]
theorem sixE_no {s : Six} (h : okS s = false) : sixE s = 1 := by unfold sixE; rw [if_neg (by rw [show words s.l = false from h]; decide)]

namespace Pl
/-- What OutOf has done when it comes to byte i. -/
def OutAt (b : List Int) (m k i : Nat) (v : Int) : Prop := v = val b ((spots m).take k) ∧ k ≤ 4 ∧ i ≤ 16 ∧
  ((k < 4 ∧ (i = cur m k ∨ (cur m k = 8 ∧ i = 9))) ∨ (k = 4 ∧ spot m 3 < i ∧ ∀ j : Nat, spot m 3 < j → j < i → j ≠ 8 → b.getD j 0 = 0))
end Pl
end Go.Proofs.YtbjogkpepfgegaaDoor
namespace Go.Proofs.YtbjogkpepfgegaaDoor
open Go.RowKit
/-- Is a port taken? -/
def PS.has (s : PS) (p : Int) : Bool := decide (1024 ≤ p) && (decide (p - 1024 < 8 * (s.n : Int)) && s.tk (p - 1024).toNat)
theorem PS.has_at {s : PS} {p : Int} (h : s.has p = true) : ∃ i : Nat, p = 1024 + (i : Int) ∧ i < 8 * s.n ∧ s.tk i = true := by
  unfold PS.has at h
  simp only [Bool.and_eq_true, decide_eq_true_eq] at h
  exact ⟨(p - 1024).toNat, by omega, by omega, h.2.2⟩
theorem PS.has_of {s : PS} {i : Nat} (h : i < 8 * s.n) (ht : s.tk i = true) : s.has (1024 + (i : Int)) = true := by
  unfold PS.has
  rw [show 1024 + (i : Int) - 1024 = (i : Int) by omega, Int.toNat_natCast, ht]
  simp
  omega
theorem PS.has_no {s : PS} {p : Int} (h : s.has p = false) : p < 1024 ∨ (1024 ≤ p ∧ 8 * (s.n : Int) ≤ p - 1024) ∨ ∃ i : Nat, p = 1024 + (i : Int) ∧ i < 8 * s.n ∧ s.tk i = false := by
  by_cases h0 : p < 1024
  · exact .inl h0
  · by_cases h1 : 8 * (s.n : Int) ≤ p - 1024
    · exact .inr (.inl ⟨by omega, h1⟩)
    · refine .inr (.inr ⟨(p - 1024).toNat, by omega, by omega, ?_⟩)
      unfold PS.has at h
      rw [decide_eq_true (show 1024 ≤ p by omega), decide_eq_true (show p - 1024 < 8 * (s.n : Int) by omega)] at h
      simpa using h
/-- What Give tells, and what it leaves. -/
def PS.giveQ (s : PS) (p : Int) : Int := if s.has p = true then 0 else 4
def PS.back (s : PS) (p : Int) : PS := if s.has p = true then s.set (p - 1024).toNat false else s
/-- Whose a port is. -/
def six0 : Six := ⟨0, 0, 0, 0, 0, 0, 0, 0⟩
def PS.who (s : PS) (p : Int) : Six := if s.has p = true then s.own ((p - 1024).toNat / 8) else six0
end Go.Proofs.YtbjogkpepfgegaaDoor
namespace Go.Proofs.YtbjogkpepfgegaaDoor
open Go.RowKit
/-- Ports of which none is taken. -/
def PS.zero (n : Nat) : PS := ⟨n, fun _ => six0, fun _ => false⟩
theorem PS.zero_many (n k : Nat) : (PS.zero n).many k = 0 := Pl.cnt_none fun _ _ => rfl
theorem Tryd.infoBlock : (Tryd.prog.info? 167).map (fun i => (i.zero, i.size, i.bytes)) = some (some (.agg #[.int .i64 0, .int .i64 0, .int .i64 0, .int .i64 0, .int .i64 0, .int .i64 0, .int .i64 0, .int .i64 0, .bool false, .bool false, .bool false, .bool false, .bool false, .bool false, .bool false, .bool false, .int .i64 0]), 17, 80) := by kernel_rfl
theorem Tryd.sizeBlock : (Tryd.prog.info? 167).map (·.size) = some 17 := by kernel_rfl
theorem z17_at (i : Nat) : (#[.int .i64 0, .int .i64 0, .int .i64 0, .int .i64 0, .int .i64 0, .int .i64 0, .int .i64 0, .int .i64 0, .bool false, .bool false, .bool false, .bool false, .bool false, .bool false, .bool false, .bool false, .int .i64 0] : Array Value)[i % 17]! = (PS.zero (i / 17 + 1)).cell i := by
  have h : i % 17 < 17 := Nat.mod_lt _ (by omega)
  have e : i = 17 * (i / 17) + i % 17 := by omega
  obtain ⟨q, hq⟩ : ∃ q, i / 17 = q := ⟨_, rfl⟩
  obtain ⟨r, hr⟩ : ∃ r, i % 17 = r := ⟨_, rfl⟩
  unfold PS.cell
  rw [hq, hr, PS.zero_many]
  rw [hr] at h
  have h : r = 0 ∨ r = 1 ∨ r = 2 ∨ r = 3 ∨ r = 4 ∨ r = 5 ∨ r = 6 ∨ r = 7 ∨ r = 8 ∨ r = 9 ∨ r = 10 ∨ r = 11 ∨ r = 12 ∨ r = 13 ∨ r = 14 ∨ r = 15 ∨ r = 16 := by omega
  rcases h with rfl | rfl | rfl | rfl | rfl | rfl | rfl | rfl | rfl | rfl | rfl | rfl | rfl | rfl | rfl | rfl | rfl <;> rfl
theorem PS.zero_cells (n : Nat) : madeCells #[.int .i64 0, .int .i64 0, .int .i64 0, .int .i64 0, .int .i64 0, .int .i64 0, .int .i64 0, .int .i64 0, .bool false, .bool false, .bool false, .bool false, .bool false, .bool false, .bool false, .bool false, .int .i64 0] (n * 17) = (PS.zero n).cells := by
  refine Array.ext_getElem? fun i => ?_
  by_cases hi : i < 17 * n
  · rw [PS.cells_at _ (show i < 17 * (PS.zero n).n from hi)]
    unfold madeCells
    rw [Array.getElem?_map, Array.getElem?_range]
    rw [if_pos (by omega)]
    show some ((#[.int .i64 0, .int .i64 0, .int .i64 0, .int .i64 0, .int .i64 0, .int .i64 0, .int .i64 0, .int .i64 0, .bool false, .bool false, .bool false, .bool false, .bool false, .bool false, .bool false, .bool false, .int .i64 0] : Array Value)[i % 17]!) = _
    rw [z17_at]
    unfold PS.cell
    rw [PS.zero_many, PS.zero_many]
    rfl
  · rw [PS.cells_out _ (show ¬ i < 17 * (PS.zero n).n from hi), Array.getElem?_eq_none (by rw [size_madeCells]; omega)]
theorem make_blocks (n : Nat) (hn : n ≤ 16) (w : World) : (Instr.makeSlice 147 (.int .i64 (n : Int)) (.int .i64 (n : Int))).run Tryd.prog w = .ok (.slice (some ⟨w.heap.size, 0, none⟩) n n) (w.alloc (.cells (PS.zero n).cells 167)) := by
  obtain ⟨i, hi, he⟩ := Option.map_eq_some_iff.1 Tryd.infoBlock
  obtain ⟨h0, h1, h2⟩ : i.zero = some (.agg #[.int .i64 0, .int .i64 0, .int .i64 0, .int .i64 0, .int .i64 0, .int .i64 0, .int .i64 0, .int .i64 0, .bool false, .bool false, .bool false, .bool false, .bool false, .bool false, .bool false, .bool false, .int .i64 0]) ∧ i.size = 17 ∧ i.bytes = 80 := by
    simpa using he
  have := run_makeSlice (P := Tryd.prog) w 147 167 i (.agg #[.int .i64 0, .int .i64 0, .int .i64 0, .int .i64 0, .int .i64 0, .int .i64 0, .int .i64 0, .int .i64 0, .bool false, .bool false, .bool false, .bool false, .bool false, .bool false, .bool false, .bool false, .int .i64 0]) Tryd.underlying147 hi h0 .i64 .i64 (n : Int) (n : Int) (by omega) (by omega) (by rw [h1, Int.toNat_natCast]; omega) (by rw [h2]; omega) (by omega)
  have hc : (Value.agg #[.int .i64 0, .int .i64 0, .int .i64 0, .int .i64 0, .int .i64 0, .int .i64 0, .int .i64 0, .int .i64 0, .bool false, .bool false, .bool false, .bool false, .bool false, .bool false, .bool false, .bool false, .int .i64 0]).cells = #[.int .i64 0, .int .i64 0, .int .i64 0, .int .i64 0, .int .i64 0, .int .i64 0, .int .i64 0, .int .i64 0, .bool false, .bool false, .bool false, .bool false, .bool false, .bool false, .bool false, .bool false, .int .i64 0] := rfl
  rw [h1, Int.toNat_natCast, hc, PS.zero_cells] at this
  exact this
set_option maxRecDepth 100000 in
set_option maxHeartbeats 1000000 in
theorem new_ok (n : Nat) (w : World) (h0 : 1 ≤ n) (h1 : n ≤ 16) :
    Calls Tryd.prog 52 #[.int .i64 (n : Int)] w fun e w' => ∃ gP gB, e = .returned (.tuple #[.pointer (some ⟨gP, 0, none⟩), .nilIface]) ∧ Prt w' gP gB (PS.zero n) ∧ Ext w w' ∧ w.heap.size ≤ gP ∧ w.heap.size ≤ gB := by
  have hmk := make_blocks n h1
  have d1 : decide ((n : Int) < 1) = false := decide_eq_false (by omega)
  have d2 : decide ((16 : Int) < (n : Int)) = false := decide_eq_false (by omega)
  go_enter Tryd.func52, Tryd.ntmps52
  go_wp2
  go_returns
  refine ⟨w.heap.size + 1, w.heap.size, ?_, ⟨?_, ?_, by omega, h0, h1⟩, ?_, by omega, by omega⟩
  · simp
  · exact Blk.at _ _ _ (by simp)
  · exact (Blk.new w _ _).alloc _
  · exact ((Ext.refl w).alloc _).alloc _
set_option maxRecDepth 100000 in
theorem new_no (n : Int) (w : World) (h : n < 1 ∨ 16 < n) :
    Calls Tryd.prog 52 #[.int .i64 n] w fun e w' => e = .returned (.tuple #[.pointer none, errv 1]) ∧ w' = w := by
  unfold errv
  by_cases h0 : n < 1
  · have d1 : decide (n < 1) = true := decide_eq_true h0
    clear h
    go_enter Tryd.func52, Tryd.ntmps52
    go_wp2
    go_returns
    exact ⟨rfl, rfl⟩
  · have d1 : decide (n < 1) = false := decide_eq_false h0
    have d2 : decide (16 < n) = true := decide_eq_true (by omega)
    clear h
    go_enter Tryd.func52, Tryd.ntmps52
    go_wp2
    go_returns
    exact ⟨rfl, rfl⟩
/-- How many ports are free. -/
def PS.used (s : PS) (k : Nat) : Nat := Pl.cnt s.tk 0 (8 * k)
def PS.free (s : PS) : Int := 8 * (s.n : Int) - (s.used s.n : Int)
theorem PS.used_step (s : PS) (k : Nat) : s.used (k + 1) = s.used k + s.many k := by
  unfold PS.used PS.many
  rw [show 8 * (k + 1) = 8 * k + 8 by omega, Pl.cnt_add, Nat.zero_add]
/-- A block's cells. -/
def PS.blk (s : PS) (k : Nat) : Array Value := Array.ofFn (n := 17) fun j => s.cell (17 * k + j)
theorem PS.blk_at (s : PS) (k : Nat) {j : Nat} (h : j < 17) : (s.blk k)[j]? = some (s.cell (17 * k + j)) := by
  unfold PS.blk
  rw [Array.getElem?_ofFn, dif_pos h]
theorem PS.cell_one (s : PS) (i : Nat) : (s.cell i).oneCell' = true := by
  unfold PS.cell
  split
  · rfl
  · split <;> rfl
theorem PS.blk_one (s : PS) (k : Nat) : (s.blk k).all (·.oneCell') = true := by
  rw [Array.all_eq_true_iff_forall_mem]
  intro v hv
  obtain ⟨i, hi⟩ := Array.mem_iff_getElem?.1 hv
  have hlt : i < 17 := by
    have := (Array.getElem?_eq_some_iff.1 hi).1
    simpa [PS.blk] using this
  rw [s.blk_at k hlt] at hi
  rw [← Option.some.inj hi]
  exact s.cell_one _
theorem Prt.blk {w : World} {gP gB : Nat} {s : PS} (h : Prt w gP gB s) {k : Nat} (hk : k < s.n) : (Instr.loadAt 167 (.pointer (some ⟨gB, k * 17, none⟩))).run Tryd.prog w = .ok (.agg (s.blk k)) w := by
  have := run_loadAt_mid (P := Tryd.prog) w gB (k * 17) 167 (s.blk k).toList _ (fun j v hv => by
    rw [Array.getElem?_toList] at hv
    have hj : j < 17 := by
      have := (Array.getElem?_eq_some_iff.1 hv).1
      simpa [PS.blk] using this
    rw [s.blk_at k hj] at hv
    rw [h.row.cells, show k * 17 + j = 17 * k + j by omega, s.cells_at (by omega)]
    exact hv) Tryd.underlying167 rfl (Tryd.sizeBlock.trans (by simp [PS.blk]))
  rw [Array.toArray_toList] at this
  exact this
end Go.Proofs.YtbjogkpepfgegaaDoor
namespace Go.Proofs.YtbjogkpepfgegaaDoor
open Go.RowKit
/-- Who has which port, in the order of their taking. -/
structure PA (s : PS) (q : List (Nat × Six)) : Prop where
  mem : ∀ x ∈ q, x.1 < 8 * s.n ∧ s.tk x.1 = true ∧ s.own (x.1 / 8) = x.2
  nd : (q.map (·.1)).Nodup
  many : s.used s.n = q.length
namespace PA
theorem zero (n : Nat) : PA (PS.zero n) [] := ⟨fun _ h => (List.not_mem_nil h).elim, List.nodup_nil, Pl.cnt_none (t := fun _ => false) (fun _ _ => rfl)⟩
/-- The port that Take gives. -/
def gets (s : PS) (who : Six) : Nat := 8 * s.pick who + s.low (s.pick who)
theorem gets_div {s : PS} {who : Six} (h : s.low (s.pick who) < 8) : gets s who / 8 = s.pick who := by unfold gets; omega
theorem pick_facts {s : PS} {who : Six} (h : s.takeQ who = 0) : s.pick who < s.n ∧ s.many (s.pick who) < 8 ∧ (s.own (s.pick who) = who ∨ s.many (s.pick who) = 0) := by
  unfold PS.takeQ at h
  split at h
  · split at h
    · rename_i h1
      refine ⟨h1, ?_⟩
      unfold PS.pick at h1 ⊢
      split at h1
      · rename_i h2
        have h3 := PS.mine_all (Pl.first_at h2)
        rw [if_pos h2]
        exact ⟨h3.2.1, .inl h3.2.2⟩
      · rename_i h2
        have h3 : (s.many (Pl.first s.fresh s.n) == 0) = true := Pl.first_at h1
        have h4 : s.many (Pl.first s.fresh s.n) = 0 := by simpa using h3
        rw [if_neg h2]
        exact ⟨by rw [h4]; omega, .inr h4⟩
    · omega
  · omega
theorem low_free {s : PS} {k : Nat} (h : s.many k < 8) : s.tk (8 * k + s.low k) = false := by
  have h1 : (!s.tk (8 * k + s.low k)) = true := Pl.first_at (p := fun j => !s.tk (8 * k + j)) (m := 8) (PS.low_lt h)
  simpa using h1
theorem set_n (s : PS) (i : Nat) (b : Bool) : (s.set i b).n = s.n := rfl
theorem give_n (s : PS) (i : Nat) (b : Six) : (s.give i b).n = s.n := rfl
theorem give_used (s : PS) (k : Nat) (b : Six) (i : Nat) (c : Bool) (m : Nat) : ((s.give k b).set i c).used m = (s.set i c).used m := rfl
theorem used_set (s : PS) {i : Nat} (b : Bool) (hi : i < 8 * s.n) : (s.set i b).used s.n + (if s.tk i = true then 1 else 0) = s.used s.n + (if b = true then 1 else 0) :=
  Pl.cnt_put s.tk 0 i b (8 * s.n) (by omega) (by omega)
theorem take {s : PS} {q : List (Nat × Six)} (h : PA s q) {who : Six} (hq : s.takeQ who = 0) :
    PA (s.take who) (q ++ [(gets s who, who)]) ∧ s.takeN who = 1024 + (gets s who : Int) ∧ gets s who < 8 * s.n ∧ (s.take who).n = s.n := by
  obtain ⟨hp, hm, ho⟩ := pick_facts hq
  have hl := PS.low_lt hm
  have hf := low_free hm
  have hlt : gets s who < 8 * s.n := by unfold gets; omega
  have hd := gets_div hl
  have ht : s.take who = (s.give (s.pick who) who).set (gets s who) true := by unfold PS.take; rw [if_pos hq]; rfl
  have hN : s.takeN who = 1024 + (gets s who : Int) := by unfold PS.takeN gets; rw [if_pos hq]; omega
  have hne : ∀ x ∈ q, x.1 ≠ gets s who := fun x hx he => by
    have := (h.mem x hx).2.1
    rw [he] at this
    unfold gets at this
    rw [hf] at this
    cases this
  rw [ht]
  refine ⟨⟨fun x hx => ?_, ?_, ?_⟩, hN, hlt, rfl⟩
  · rcases List.mem_append.1 hx with hx | hx
    · obtain ⟨h1, h2, h3⟩ := h.mem x hx
      refine ⟨h1, ?_, ?_⟩
      · show Pl.upd s.tk (gets s who) true x.1 = true
        rw [Pl.upd_other _ _ (hne x hx)]
        exact h2
      · show Pl.upd s.own (s.pick who) who (x.1 / 8) = x.2
        by_cases hk : x.1 / 8 = s.pick who
        · rw [hk, Pl.upd_same]
          rcases ho with ho | ho
          · rw [← ho, ← hk]; exact h3
          · have h5 : s.tk (8 * s.pick who + x.1 % 8) = false := Pl.cnt_zero (m := 8) ho (x.1 % 8) (by omega)
            rw [show 8 * s.pick who + x.1 % 8 = x.1 by omega, h2] at h5
            cases h5
        · rw [Pl.upd_other _ _ hk]
          exact h3
    · have hx' : x = (gets s who, who) := List.mem_singleton.1 hx
      have e1 : x.1 = gets s who := congrArg Prod.fst hx'
      have e2 : x.2 = who := congrArg Prod.snd hx'
      rw [e1, e2]
      generalize gets s who = g at *
      refine ⟨hlt, ?_, ?_⟩
      · show Pl.upd s.tk g true g = true
        exact Pl.upd_same _ _ _
      · show Pl.upd s.own (s.pick who) who (g / 8) = who
        rw [hd]
        exact Pl.upd_same _ _ _
  · rw [List.map_append, List.map_cons, List.map_nil]
    refine List.nodup_append.2 ⟨h.nd, by simp, fun a ha b hb => ?_⟩
    obtain ⟨x, hx, rfl⟩ := List.mem_map.1 ha
    obtain rfl := List.mem_singleton.1 hb
    exact hne x hx
  · have hu := used_set s true hlt
    have hf' : s.tk (gets s who) = false := hf
    generalize gets s who = g at *
    rw [hf'] at hu
    have hu : (s.set g true).used s.n + 0 = s.used s.n + 1 := hu
    rw [set_n, give_n, give_used, List.length_append, List.length_singleton, ← h.many]
    omega
theorem back {s : PS} {l m : List (Nat × Six)} {x : Nat × Six} (h : PA s (l ++ x :: m)) : PA (s.back (1024 + (x.1 : Int))) (l ++ m) ∧ s.has (1024 + (x.1 : Int)) = true ∧ (s.back (1024 + (x.1 : Int))).n = s.n := by
  obtain ⟨h1, h2, h3⟩ := h.mem x (List.mem_append_right _ (List.mem_cons_self ..))
  have hh := PS.has_of h1 h2
  have hb : s.back (1024 + (x.1 : Int)) = s.set x.1 false := by unfold PS.back; rw [if_pos hh, show 1024 + (x.1 : Int) - 1024 = (x.1 : Int) by omega, Int.toNat_natCast]
  have hp : (l ++ x :: m).Perm (x :: (l ++ m)) := List.perm_middle
  have hnd : ((x :: (l ++ m)).map (·.1)).Nodup := (hp.map _).nodup_iff.1 h.nd
  rw [List.map_cons, List.nodup_cons] at hnd
  rw [hb]
  refine ⟨⟨fun y hy => ?_, hnd.2, ?_⟩, hh, rfl⟩
  · obtain ⟨g1, g2, g3⟩ := h.mem y (hp.symm.subset (List.mem_cons_of_mem _ hy))
    refine ⟨g1, ?_, g3⟩
    show Pl.upd s.tk x.1 false y.1 = true
    rw [Pl.upd_other _ _ (fun he => hnd.1 (by rw [← he]; exact List.mem_map_of_mem hy))]
    exact g2
  · have hu := used_set s false h1
    rw [h2, if_pos rfl, if_neg (by decide)] at hu
    have hlen := h.many
    rw [hp.length_eq, List.length_cons] at hlen
    rw [set_n]
    omega
/-- What the law asks of one port that is taken. -/
theorem one {s : PS} {q : List (Nat × Six)} (h : PA s q) {k : Nat} {x : Nat × Six} (hx : q[k]? = some x) : s.has (1024 + (x.1 : Int)) = true ∧ s.who (1024 + (x.1 : Int)) = x.2 ∧ x.1 < 8 * s.n := by
  obtain ⟨h1, h2, h3⟩ := h.mem x (List.mem_of_getElem? hx)
  have hh := PS.has_of h1 h2
  refine ⟨hh, ?_, h1⟩
  unfold PS.who
  rw [if_pos hh, show 1024 + (x.1 : Int) - 1024 = (x.1 : Int) by omega, Int.toNat_natCast]
  exact h3
/-- Of two ports that are taken. -/
theorem two {s : PS} {q : List (Nat × Six)} (h : PA s q) {j k : Nat} {x y : Nat × Six} (hjk : j < k) (hx : q[j]? = some x) (hy : q[k]? = some y) : x.1 ≠ y.1 ∧ (x.1 / 8 = y.1 / 8 → x.2 = y.2) := by
  obtain ⟨_, _, h3⟩ := h.mem x (List.mem_of_getElem? hx)
  obtain ⟨_, _, g3⟩ := h.mem y (List.mem_of_getElem? hy)
  refine ⟨fun he => ?_, fun he => by rw [← h3, ← g3, he]⟩
  have h1 : (q.map (·.1))[j]? = some x.1 := by rw [List.getElem?_map, hx]; rfl
  have h2 : (q.map (·.1))[k]? = some y.1 := by rw [List.getElem?_map, hy]; rfl
  have hj := (List.getElem?_eq_some_iff.1 h1).1
  have := (List.getElem?_inj (j := k) hj h.nd).1 (by rw [h1, h2, he])
  omega
end PA
end Go.Proofs.YtbjogkpepfgegaaDoor
namespace Go.Proofs.YtbjogkpepfgegaaDoor
open Go.RowKit
/-- The document's state: whose each port is, which are taken. -/
structure RS where
  n : Nat
  wh : Nat → Six
  tk : Nat → Bool
namespace RS
def cell (r : RS) (i : Nat) : Value := .int .i64 ((r.wh (i / 8)).l.getD (i % 8) 0)
def whos (r : RS) : Array Value := Array.ofFn (n := 8 * r.n * 8) fun i => r.cell i
def taken (r : RS) : Array Value := Array.ofFn (n := 8 * r.n) fun i => .bool (r.tk i)
def set (r : RS) (i : Nat) (b : Bool) : RS := { r with tk := Pl.upd r.tk i b }
def give (r : RS) (i : Nat) (who : Six) : RS := { r with wh := Pl.upd r.wh i who }
theorem taken_at (r : RS) {i : Nat} (h : i < 8 * r.n) : r.taken[i]? = some (.bool (r.tk i)) := by
  unfold taken
  rw [Array.getElem?_ofFn, dif_pos h]
theorem taken_out (r : RS) {i : Nat} (h : ¬ i < 8 * r.n) : r.taken[i]? = none := by
  unfold taken
  rw [Array.getElem?_ofFn, dif_neg h]
theorem whos_at (r : RS) {i : Nat} (h : i < 8 * r.n * 8) : r.whos[i]? = some (r.cell i) := by
  unfold whos
  rw [Array.getElem?_ofFn, dif_pos h]
theorem whos_out (r : RS) {i : Nat} (h : ¬ i < 8 * r.n * 8) : r.whos[i]? = none := by
  unfold whos
  rw [Array.getElem?_ofFn, dif_neg h]
theorem cell_at (r : RS) (k : Nat) {j : Nat} (h : j < 8) : r.cell (k * 8 + j) = .int .i64 ((r.wh k).l.getD j 0) := by
  have e1 : (k * 8 + j) % 8 = j := by omega
  have e2 : (k * 8 + j) / 8 = k := by omega
  unfold cell
  rw [e1, e2]
theorem taken_set (r : RS) (i : Nat) (b : Bool) : r.taken.setIfInBounds i (.bool b) = (r.set i b).taken := by
  refine Array.ext_getElem? fun j => ?_
  have hsz : r.taken.size = 8 * r.n := by simp [taken]
  rw [Array.getElem?_setIfInBounds, hsz]
  by_cases hj : j < 8 * r.n
  · rw [taken_at (r.set i b) (show j < 8 * (r.set i b).n from hj)]
    by_cases he : i = j
    · subst he
      rw [if_pos rfl, if_pos hj]
      exact congrArg (fun x => some (Value.bool x)) (Pl.upd_same r.tk i b).symm
    · rw [if_neg he, taken_at r hj]
      exact congrArg (fun x => some (Value.bool x)) (Pl.upd_other r.tk b (fun h => he h.symm)).symm
  · rw [taken_out (r.set i b) (show ¬ j < 8 * (r.set i b).n from hj)]
    by_cases he : i = j
    · rw [if_pos he, if_neg (by omega)]
    · rw [if_neg he, taken_out r hj]
theorem whos_give (r : RS) {i : Nat} (who : Six) (hi : i < 8 * r.n) : PS.puts r.whos (i * 8) who.cells.toList = (r.give i who).whos := by
  refine Array.ext_getElem? fun j => ?_
  have hsz : r.whos.size = 8 * r.n * 8 := by simp [whos]
  rw [PS.puts_get, show who.cells.toList.length = 8 from rfl, hsz]
  by_cases hj : j < 8 * r.n * 8
  case neg =>
    rw [whos_out (r.give i who) (show ¬ j < 8 * (r.give i who).n * 8 from hj), if_neg (by omega), whos_out r hj]
  rw [whos_at (r.give i who) (show j < 8 * (r.give i who).n * 8 from hj)]
  obtain ⟨k, m, hm, rfl⟩ : ∃ k m, m < 8 ∧ j = k * 8 + m := ⟨j / 8, j % 8, by omega, by omega⟩
  rw [cell_at _ k hm]
  by_cases he : k = i
  · subst he
    rw [if_pos (by omega), show k * 8 + m - k * 8 = m by omega, Array.getElem?_toList, who.cells_at m hm]
    exact congrArg (fun x : Six => some (Value.int .i64 (x.l.getD m 0))) (Pl.upd_same r.wh k who).symm
  · rw [if_neg (by omega), whos_at r hj, cell_at r k hm]
    exact congrArg (fun x : Six => some (Value.int .i64 (x.l.getD m 0))) (Pl.upd_other r.wh who he).symm
end RS
/-- Only blocks g and h have turned (and what is new). -/
structure Two (a b : World) (g h : Nat) : Prop where
  os : b.os = a.os
  tape : b.tape = a.tape
  output : b.output = a.output
  size : a.heap.size ≤ b.heap.size
  block : ∀ i, i < a.heap.size → i ≠ g → i ≠ h → b.heap[i]? = a.heap[i]?
section
variable {a b c : World} {g h : Nat}
theorem Two.refl (a : World) (g h : Nat) : Two a a g h := ⟨rfl, rfl, rfl, Nat.le_refl _, fun _ _ _ _ => rfl⟩
theorem Two.trans (p : Two a b g h) (q : Two b c g h) : Two a c g h :=
  ⟨q.os.trans p.os, q.tape.trans p.tape, q.output.trans p.output, Nat.le_trans p.size q.size, fun i hi h1 h2 => (q.block i (Nat.lt_of_lt_of_le hi p.size) h1 h2).trans (p.block i hi h1 h2)⟩
theorem Ext.two (p : Ext a b) : Two a b g h := ⟨p.os, p.tape, p.output, p.size, fun i hi _ _ => p.block i hi⟩
theorem Two.left (p : a.grownBy b (some g)) : Two a b g h := ⟨p.os, p.tape, p.output, p.size, fun i hi h1 _ => p.block i hi (fun e => h1 (Option.some.inj e))⟩
theorem Two.right (p : a.grownBy b (some h)) : Two a b g h := ⟨p.os, p.tape, p.output, p.size, fun i hi _ h2 => p.block i hi (fun e => h2 (Option.some.inj e))⟩
theorem Blk.two {t : TypeId} {cs : Array Value} {k : Nat} (q : Blk a k t cs) (p : Two a b g h) (h1 : k ≠ g) (h2 : k ≠ h) : Blk b k t cs := (p.block k q.lt h1 h2).trans q
theorem Prt.two {gP gB : Nat} {s : PS} (q : Prt a gP gB s) (p : Two a b g h) (h1 : gP ≠ g ∧ gP ≠ h) (h2 : gB ≠ g ∧ gB ≠ h) : Prt b gP gB s := ⟨q.ptr.two p h1.1 h1.2, q.row.two p h2.1 h2.2, q.ne, q.n0, q.n1⟩
theorem Below.two {B : Nat} (q : Below B a b) (p : Two b c g h) (hB : B ≤ b.heap.size) (h1 : B ≤ g) (h2 : B ≤ h) : Below B a c :=
  q.trans ⟨p.os, p.tape, p.output, p.size, fun i hi => p.block i (by omega) (by omega) (by omega)⟩
end
namespace Rrt
variable {w w' : World} {gM gW gT : Nat} {r : RS}
end Rrt
/-- Both hold the same. -/
structure Like (s : PS) (r : RS) : Prop where
  n : r.n = s.n
  tk : r.tk = s.tk
  wh : ∀ i, i < 8 * s.n → s.tk i = true → r.wh i = s.own (i / 8)
/-- Whose a block is. -/
def PS.hold (s : PS) (k : Nat) : Six := if s.many k = 0 then six0 else s.own k
def PS.is (s : PS) (k : Nat) : Bool := decide (0 < s.many k)
theorem Like.back {s : PS} {r : RS} (hL : Like s r) {i : Nat} (h : s.has (1024 + (i : Int)) = true) : Like (s.back (1024 + (i : Int))) (r.set i false) := by
  have hb : s.back (1024 + (i : Int)) = s.set i false := by unfold PS.back; rw [if_pos h, show 1024 + (i : Int) - 1024 = (i : Int) by omega, Int.toNat_natCast]
  rw [hb]
  refine ⟨hL.n, ?_, fun j hj ht => ?_⟩
  · show Pl.upd r.tk i false = Pl.upd s.tk i false
    rw [hL.tk]
  · have ht' : Pl.upd s.tk i false j = true := ht
    refine hL.wh j hj ?_
    by_cases he : j = i
    · rw [he, Pl.upd_same] at ht'; cases ht'
    · rw [Pl.upd_other _ _ he] at ht'; exact ht'
end Go.Proofs.YtbjogkpepfgegaaDoor
namespace Go.Proofs.YtbjogkpepfgegaaDoor
open Go.RowKit
/-- Of what was there nothing has changed, but at some blocks. -/
structure Kp (S : List Nat) (a b : World) : Prop where
  os : b.os = a.os
  tape : b.tape = a.tape
  output : b.output = a.output
  size : a.heap.size ≤ b.heap.size
  block : ∀ i, i < a.heap.size → i ∉ S → b.heap[i]? = a.heap[i]?
section
variable {S T : List Nat} {a b c : World}
theorem Kp.refl (S : List Nat) (a : World) : Kp S a a := ⟨rfl, rfl, rfl, Nat.le_refl _, fun _ _ _ => rfl⟩
theorem Kp.trans (h : Kp S a b) (k : Kp S b c) : Kp S a c :=
  ⟨k.os.trans h.os, k.tape.trans h.tape, k.output.trans h.output, Nat.le_trans h.size k.size, fun i hi hn => (k.block i (Nat.lt_of_lt_of_le hi h.size) hn).trans (h.block i hi hn)⟩
theorem Kp.mono (h : Kp S a b) (hs : ∀ g ∈ S, g ∈ T) : Kp T a b := ⟨h.os, h.tape, h.output, h.size, fun i hi hn => h.block i hi fun hm => hn (hs i hm)⟩
theorem Ext.kp (h : Ext a b) (S : List Nat) : Kp S a b := ⟨h.os, h.tape, h.output, h.size, fun i hi _ => h.block i hi⟩
theorem Kp.ofGrown {g : Nat} (h : a.grownBy b (some g)) (hg : g ∈ S) : Kp S a b := ⟨h.os, h.tape, h.output, h.size, fun i hi hn => h.block i hi fun e => hn (by cases e; exact hg)⟩
theorem Kp.ofTwo {g k : Nat} (h : Two a b g k) (hg : g ∈ S) (hk : k ∈ S) : Kp S a b := ⟨h.os, h.tape, h.output, h.size, fun i hi hn => h.block i hi (fun e => hn (e ▸ hg)) (fun e => hn (e ▸ hk))⟩
theorem Kp.ext (h : Kp [] a b) : Ext a b := ⟨h.os, h.tape, h.output, h.size, fun i hi => h.block i hi (fun hm => by cases hm)⟩
theorem Kp.drew (h : Kp S a b) : Kp S a b.drew := ⟨h.os, h.tape, h.output, h.size, h.block⟩
theorem Kp.andExt (h : Kp S a b) (k : Ext b c) : Kp S a c := h.trans (k.kp S)
theorem Kp.row (h : Kp S a b) {k : Nat} (hk : a.heap.size ≤ k) (cs : Array Value) : Kp S a (b.setRow k cs) :=
  ⟨h.os, h.tape, h.output, by simpa using h.size, fun i hi hn => (setRow_other b k i cs (by omega)).trans (h.block i hi hn)⟩
theorem Prt.farRow {gP gB : Nat} {s : PS} (q : Prt a gP gB s) {k : Nat} (h0 : gP ≠ k) (h1 : gB ≠ k) (cs : Array Value) : Prt (a.setRow k cs) gP gB s := ⟨q.ptr.farRow h0 cs, q.row.farRow h1 cs, q.ne, q.n0, q.n1⟩
theorem MapIs.farRow {κ : Type} {K : Keys κ} {g : Nat} {l : List (Ent κ)} {cl : Nat} (q : MapIs K a g l cl) {k : Nat} (hk : g ≠ k) (cs : Array Value) : MapIs K (a.setRow k cs) g l cl := ⟨(setRow_other a k g cs hk).trans q.here, q.old⟩
theorem Kp.below {B : Nat} (h : Kp S a b) (hB : B ≤ a.heap.size) (hS : ∀ g ∈ S, B ≤ g) : Below B a b :=
  ⟨h.os, h.tape, h.output, h.size, fun i hi => h.block i (Nat.lt_of_lt_of_le hi hB) (fun hm => by have := hS i hm; omega)⟩
theorem Below.kp {B : Nat} (q : Below B a b) (h : Kp S b c) (hB : B ≤ b.heap.size) (hS : ∀ g ∈ S, B ≤ g) : Below B a c := q.trans (h.below hB hS)
theorem Blk.kp {t : TypeId} {cs : Array Value} {g : Nat} (q : Blk a g t cs) (h : Kp S a b) (hg : g ∉ S) : Blk b g t cs := (h.block g q.lt hg).trans q
theorem MapIs.kp {κ : Type} {K : Keys κ} {g : Nat} {l : List (Ent κ)} {cl : Nat} (q : MapIs K a g l cl) (h : Kp S a b) (hg : g ∉ S) : MapIs K b g l cl := ⟨(h.block g q.lt hg).trans q.here, q.old⟩
theorem Prt.kp {gP gB : Nat} {s : PS} (q : Prt a gP gB s) (h : Kp S a b) (h0 : gP ∉ S) (h1 : gB ∉ S) : Prt b gP gB s := ⟨q.ptr.kp h h0, q.row.kp h h1, q.ne, q.n0, q.n1⟩
end
end Go.Proofs.YtbjogkpepfgegaaDoor
