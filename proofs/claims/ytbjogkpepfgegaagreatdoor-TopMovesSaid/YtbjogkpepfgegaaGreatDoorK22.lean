/- Lemmas of this seat, bound together: OpenC Port2 Port3 PortA RPort Kp. Conditions: as each lemma states them. -/
import Derived.Test.YtbjogkpepfgegaaGreatDoorK02
import Derived.Test.YtbjogkpepfgegaaGreatDoorK18
import Derived.Test.YtbjogkpepfgegaaGreatDoorK19
import Derived.Test.YtbjogkpepfgegaaGreatDoorK00
import Derived.Test.YtbjogkpepfgegaaGreatDoorK16
import Derived.Deep.DeepCutAuto
import Derived.Test.YtbjogkpepfgegaaGreatDoorK04
namespace Go.Proofs.YtbjogkpepfgegaaGreatDoor
open Go.ChangeShapes Go.WideShapes Go.ChangeAt Go.RowKit
/-- A config that came in. -/
def IsCfg (w : World) (c : Cfg) (a : Option Addr) (n m : Nat) (bs : List Pl.Back) : Prop := IsBacks w a n m bs ∧ c.vip.Is ∧ IsInt c.door ∧ c.pre.Is ∧ IsInt c.len ∧ IsInt c.near ∧ IsInt c.seed ∧ IsInt c.blocks
section
variable {H : Type} {enc : TypeId × Value → H} {W : World}
theorem Tryz.cellsCfg : Tryz.prog.cellsOf 26 = 23 := by kernel_rfl
theorem Tryz.cellsBacks : Tryz.prog.cellsOf 24 = 1 := by kernel_rfl
theorem open_field_backs {n : Nat} {c : Value} {y : Option (DataW H × List MemPlace)} (hy : y.isSome = true) (h : DataW.trod enc Tryz.prog W 0 (fun _ => true) true n 24 [c] = y) : ∃ a l k bs, c = .slice a l k ∧ IsBacks W a l k bs := by
  obtain ⟨⟨d, p⟩, rfl⟩ := Option.isSome_iff_exists.1 hy
  have hs : ∃ a l k, c = .slice a l k := by
    rcases Go.Deep.open_slice Tryz.underlying24 h with ⟨hcs, _⟩ | ⟨x, l, c', m, n', D, P, hcs, _⟩
    · exact ⟨none, 0, 0, by simpa using hcs⟩
    · exact ⟨some x, l, _, by simpa using hcs⟩
  obtain ⟨a, l, k, rfl⟩ := hs
  obtain ⟨bs, hb⟩ := open_backs (a := a) (n := l) (c := k) (d := d) (p := p) (W := W) (enc := enc) ⟨n, by simpa [Value.cells] using h⟩
  exact ⟨a, l, k, bs, rfl, hb⟩
set_option maxRecDepth 100000 in
theorem open_cfg {v : Value} {d : DataW H} {p : List MemPlace} {base : Nat} (hv : Value.okWide Tryz.prog W .any base 26 v) (h : DataW.Trod enc Tryz.prog W 0 (fun _ => true) true 26 v d p) :
    ∃ (q : Cfg) (a : Option Addr) (n m : Nat) (bs : List Pl.Back), v = q.v (.slice a n m) ∧ IsCfg W q a n m bs := by
  obtain ⟨cs, rfl, hsz⟩ := okWide_struct Tryz.underlying26 hv
  obtain ⟨l⟩ := cs
  match l, hsz.trans Tryz.cellsCfg with
  | [c0, c1, c2, c3, c4, c5, c6, c7, c8, c9, c10, c11, c12, c13, c14, c15, c16, c17, c18, c19, c20, c21, c22], _ =>
    obtain ⟨fuel, hf⟩ := h
    obtain ⟨xs, m, _, _, _, hlen, hg⟩ := DataW.trod_struct Tryz.underlying26 hf
    obtain ⟨s0, h0, i0⟩ := open_cells_six (isSome_at (j := 0) hlen (by simp)) (by simpa [Value.cells, Tryz.cellsSix] using hg 0 _ rfl)
    obtain ⟨x1, rfl, i1⟩ := open_cell_int (isSome_at (j := 1) hlen (by simp)) (by simpa [Value.cells, Tryz.cellsInt] using hg 1 _ rfl)
    obtain ⟨s2, h2, i2⟩ := open_cells_six (isSome_at (j := 2) hlen (by simp)) (by simpa [Value.cells, Tryz.cellsSix] using hg 2 _ rfl)
    obtain ⟨x3, rfl, i3⟩ := open_cell_int (isSome_at (j := 3) hlen (by simp)) (by simpa [Value.cells, Tryz.cellsInt] using hg 3 _ rfl)
    obtain ⟨x4, rfl, i4⟩ := open_cell_int (isSome_at (j := 4) hlen (by simp)) (by simpa [Value.cells, Tryz.cellsInt] using hg 4 _ rfl)
    obtain ⟨x5, rfl, i5⟩ := open_cell_int (isSome_at (j := 5) hlen (by simp)) (by simpa [Value.cells, Tryz.cellsInt] using hg 5 _ rfl)
    obtain ⟨x6, rfl, i6⟩ := open_cell_int (isSome_at (j := 6) hlen (by simp)) (by simpa [Value.cells, Tryz.cellsInt] using hg 6 _ rfl)
    obtain ⟨b7, rfl⟩ := open_cell_bool (isSome_at (j := 7) hlen (by simp)) (by simpa [Value.cells, Tryz.cellsBool] using hg 7 _ rfl)
    obtain ⟨a, n, k, bs, rfl, hb⟩ := open_field_backs (isSome_at (j := 8) hlen (by simp)) (by simpa [Value.cells, Tryz.cellsBacks] using hg 8 _ rfl)
    refine ⟨⟨s0, x1, s2, x3, x4, x5, x6, b7⟩, a, n, k, bs, ?_, hb, i0, i1, i2, i3, i4, i5, i6⟩
    have e0 : [c0, c1, c2, c3, c4, c5, c6, c7] = s0.cells.toList := h0
    have e2 : [c9, c10, c11, c12, c13, c14, c15, c16] = s2.cells.toList := h2
    simp only [Six.cells, List.cons.injEq, and_true] at e0 e2
    obtain ⟨rfl, rfl, rfl, rfl, rfl, rfl, rfl, rfl⟩ := e0
    obtain ⟨rfl, rfl, rfl, rfl, rfl, rfl, rfl, rfl⟩ := e2
    rfl
end
end Go.Proofs.YtbjogkpepfgegaaGreatDoor
namespace Go.Proofs.YtbjogkpepfgegaaGreatDoor
open Go.RowKit
/-- Is a port taken? -/
def PS.has (s : PS) (p : Int) : Bool := decide (1024 ≤ p) && (decide (p - 1024 < 8 * (s.n : Int)) && s.tk (p - 1024).toNat)
theorem PS.has_at {s : PS} {p : Int} (h : s.has p = true) : ∃ i : Nat, p = 1024 + (i : Int) ∧ i < 8 * s.n ∧ s.tk i = true := by
  unfold PS.has at h
  simp only [Bool.and_eq_true, decide_eq_true_eq] at h
  exact ⟨(p - 1024).toNat, by omega, by omega, h.2.2⟩
theorem PS.has_of {s : PS} {i : Nat} (h : i < 8 * s.n) (ht : s.tk i = true) : s.has (1024 + (i : Int)) = true := by
  unfold PS.has
  rw [show 1024 + (i : Int) - 1024 = (i : Int) by omega, Int.toNat_natCast, ht]
  simp
  omega
set_option maxRecDepth 100000 in
set_option maxHeartbeats 1000000 in
theorem at_yes (gP gB : Nat) (s : PS) (i : Nat) (w : World) (h : Prt w gP gB s) (hi : i < 8 * s.n) (ht : s.tk i = true) :
    Calls Tryz.prog 103 #[.pointer (some ⟨gP, 0, none⟩), .int .i64 (1024 + (i : Int))] w fun e w' => e = .returned (.tuple #[.pointer (some ⟨gB, i / 8 * 17, none⟩), .int .i64 ((i % 8 : Nat) : Int), .nilIface]) ∧ w' = w := by
  have hn := h.n1
  have c0 := h.c0
  have ct := h.tk (k := i / 8) (j := i % 8) (by omega) (by omega)
  rw [show 8 * (i / 8) + i % 8 = i by omega, ht] at ct
  obtain ⟨q, r, rfl, hr⟩ : ∃ q r, i = 8 * q + r ∧ r < 8 := ⟨i / 8, i % 8, by omega, by omega⟩
  have e1 : (8 * q + r) / 8 = q := by omega
  have e2 : (8 * q + r) % 8 = r := by omega
  rw [e1, e2] at ct ⊢
  have w1 : 1024 + ((8 * q + r : Nat) : Int) - 1024 = 8 * (q : Int) + (r : Int) := by omega
  have w2 : IntKind.i64.wrap (8 * (q : Int) + (r : Int)) = 8 * (q : Int) + (r : Int) := IntWalk.i64_in _ (by omega)
  have w3 : Int.tdiv (8 * (q : Int) + (r : Int)) 8 = (q : Int) := by rw [Int.tdiv_eq_ediv_of_nonneg (by omega)]; omega
  have w4 : Int.tmod (8 * (q : Int) + (r : Int)) 8 = (r : Int) := by rw [Int.tmod_eq_emod_of_nonneg (by omega)]; omega
  have w5 : IntKind.i64.wrap (q : Int) = (q : Int) := IntWalk.i64_in _ (by omega)
  have w6 : IntKind.i64.wrap (r : Int) = (r : Int) := IntWalk.i64_in _ (by omega)
  have w7 : IntKind.i64.wrap ((s.n : Int) * 8) = (s.n : Int) * 8 := IntWalk.i64_in _ (by omega)
  have d1 : decide (1024 + ((8 * q + r : Nat) : Int) < 1024) = false := decide_eq_false (by omega)
  have d2 : decide ((s.n : Int) * 8 ≤ 8 * (q : Int) + (r : Int)) = false := decide_eq_false (by omega)
  have hq : q < s.n := by omega
  have hq' : (q : Int) < (s.n : Int) := by omega
  obtain ⟨P, hP⟩ : ∃ P : Int, 1024 + ((8 * q + r : Nat) : Int) = P := ⟨_, rfl⟩
  rw [hP] at w1 d1 ⊢
  clear hP hi
  go_enter Tryz.func103, Tryz.ntmps103
  go_wp2
  go_returns
  exact ⟨rfl, rfl⟩
theorem PS.has_no {s : PS} {p : Int} (h : s.has p = false) : p < 1024 ∨ (1024 ≤ p ∧ 8 * (s.n : Int) ≤ p - 1024) ∨ ∃ i : Nat, p = 1024 + (i : Int) ∧ i < 8 * s.n ∧ s.tk i = false := by
  by_cases h0 : p < 1024
  · exact .inl h0
  · by_cases h1 : 8 * (s.n : Int) ≤ p - 1024
    · exact .inr (.inl ⟨by omega, h1⟩)
    · refine .inr (.inr ⟨(p - 1024).toNat, by omega, by omega, ?_⟩)
      unfold PS.has at h
      rw [decide_eq_true (show 1024 ≤ p by omega), decide_eq_true (show p - 1024 < 8 * (s.n : Int) by omega)] at h
      simpa using h
set_option maxRecDepth 100000 in
set_option maxHeartbeats 1000000 in
theorem at_no (gP gB : Nat) (s : PS) (p : Int) (w : World) (h : Prt w gP gB s) (hp : IsInt p) (ht : s.has p = false) :
    Calls Tryz.prog 103 #[.pointer (some ⟨gP, 0, none⟩), .int .i64 p] w fun e w' => e = .returned (.tuple #[.pointer none, .int .i64 0, errv 4]) ∧ w' = w := by
  have hn := h.n1
  have c0 := h.c0
  obtain ⟨hp0, hp1⟩ := hp
  rcases PS.has_no ht with h0 | ⟨h0, h1⟩ | ⟨i, rfl, hi, hf⟩
  · have d1 : decide (p < 1024) = true := decide_eq_true h0
    unfold errv
    clear ht
    go_enter Tryz.func103, Tryz.ntmps103
    go_wp2
    go_returns
    exact ⟨rfl, rfl⟩
  · have d1 : decide (p < 1024) = false := decide_eq_false (by omega)
    have w1 : IntKind.i64.wrap (p - 1024) = p - 1024 := IntWalk.i64_in _ (by omega)
    have w7 : IntKind.i64.wrap ((s.n : Int) * 8) = (s.n : Int) * 8 := IntWalk.i64_in _ (by omega)
    have d2 : decide ((s.n : Int) * 8 ≤ p - 1024) = true := decide_eq_true (by omega)
    unfold errv
    clear ht
    go_enter Tryz.func103, Tryz.ntmps103
    go_wp2
    go_returns
    exact ⟨rfl, rfl⟩
  · have ct := h.tk (k := i / 8) (j := i % 8) (by omega) (by omega)
    rw [show 8 * (i / 8) + i % 8 = i by omega, hf] at ct
    obtain ⟨q, r, rfl, hr⟩ : ∃ q r, i = 8 * q + r ∧ r < 8 := ⟨i / 8, i % 8, by omega, by omega⟩
    have e1 : (8 * q + r) / 8 = q := by omega
    have e2 : (8 * q + r) % 8 = r := by omega
    rw [e1, e2] at ct
    have w1 : 1024 + ((8 * q + r : Nat) : Int) - 1024 = 8 * (q : Int) + (r : Int) := by omega
    have w2 : IntKind.i64.wrap (8 * (q : Int) + (r : Int)) = 8 * (q : Int) + (r : Int) := IntWalk.i64_in _ (by omega)
    have w3 : Int.tdiv (8 * (q : Int) + (r : Int)) 8 = (q : Int) := by rw [Int.tdiv_eq_ediv_of_nonneg (by omega)]; omega
    have w4 : Int.tmod (8 * (q : Int) + (r : Int)) 8 = (r : Int) := by rw [Int.tmod_eq_emod_of_nonneg (by omega)]; omega
    have w5 : IntKind.i64.wrap (q : Int) = (q : Int) := IntWalk.i64_in _ (by omega)
    have w6 : IntKind.i64.wrap (r : Int) = (r : Int) := IntWalk.i64_in _ (by omega)
    have w7 : IntKind.i64.wrap ((s.n : Int) * 8) = (s.n : Int) * 8 := IntWalk.i64_in _ (by omega)
    have d1 : decide (1024 + ((8 * q + r : Nat) : Int) < 1024) = false := decide_eq_false (by omega)
    have d2 : decide ((s.n : Int) * 8 ≤ 8 * (q : Int) + (r : Int)) = false := decide_eq_false (by omega)
    have hq : q < s.n := by omega
    have hq' : (q : Int) < (s.n : Int) := by omega
    obtain ⟨P, hP⟩ : ∃ P : Int, 1024 + ((8 * q + r : Nat) : Int) = P := ⟨_, rfl⟩
    rw [hP] at w1 d1 ⊢
    unfold errv
    clear hP hi ht hf hp0 hp1
    go_enter Tryz.func103, Tryz.ntmps103
    go_wp2
    go_returns
    exact ⟨rfl, rfl⟩
/-- What Give tells, and what it leaves. -/
def PS.giveQ (s : PS) (p : Int) : Int := if s.has p = true then 0 else 4
def PS.back (s : PS) (p : Int) : PS := if s.has p = true then s.set (p - 1024).toNat false else s
set_option maxRecDepth 100000 in
set_option maxHeartbeats 1000000 in
theorem give_any (gP gB : Nat) (s : PS) (p : Int) (w : World) (h : Prt w gP gB s) (hp : IsInt p) :
    Calls Tryz.prog 84 #[.pointer (some ⟨gP, 0, none⟩), .int .i64 p] w fun e w' => e = .returned (erv (s.giveQ p)) ∧ Prt w' gP gB (s.back p) ∧ w.grownBy w' (some gB) := by
  cases ht : s.has p
  case false =>
    have e1 : s.giveQ p = 4 := by unfold PS.giveQ; rw [ht]; rfl
    have e2 : s.back p = s := by unfold PS.back; rw [ht]; rfl
    rw [e1, e2]
    have HA := Lib.hid (at_no gP gB s p w h hp ht)
    have HH := Lib.hid h
    clear e1 e2 h ht hp
    go_enter Tryz.func84, Tryz.ntmps84
    go_wp2_with fail
    refine HA.out.mono ?_
    rintro e w' ⟨rfl, rfl⟩
    unfold errv
    go_wp2_with fail
    go_returns
    exact ⟨rfl, HH.out, World.grownBy.refl _ _⟩
  case true =>
    obtain ⟨i, rfl, hi, hti⟩ := PS.has_at ht
    have e1 : s.giveQ (1024 + (i : Int)) = 0 := by unfold PS.giveQ; rw [ht]; rfl
    have e2 : s.back (1024 + (i : Int)) = s.set i false := by unfold PS.back; rw [if_pos ht, show 1024 + (i : Int) - 1024 = (i : Int) by omega, Int.toNat_natCast]
    rw [e1, e2, erv_zero]
    have HA := Lib.hid (at_yes gP gB s i w h hi hti)
    have HH := Lib.hid h
    obtain ⟨q, r, rfl, hr⟩ : ∃ q r, i = 8 * q + r ∧ r < 8 := ⟨i / 8, i % 8, by omega, by omega⟩
    have d1 : (8 * q + r) / 8 = q := by omega
    have d2 : (8 * q + r) % 8 = r := by omega
    rw [d1, d2] at HA
    have hq : q < s.n := by omega
    have hM := s.many_set (k := q) false hr
    rw [hti, if_pos rfl, if_neg (by decide)] at hM
    have HM := Lib.hid hM
    have ct := h.tk hq hr
    have cm := h.many hq
    have hml := Pl.cnt_le s.tk (8 * q) 8
    have hml' : s.many q ≤ 8 := hml
    have f1 := h.row.free (q * 17 + 8 + r)
    have f2 := h.row.free (q * 17 + 16)
    have wm : IntKind.i64.wrap ((s.many q : Int) - 1) = (s.many q : Int) - 1 := IntWalk.i64_in _ (by omega)
    clear d1 d2 e1 e2 h ht hp hi hti hM hml
    go_enter Tryz.func84, Tryz.ntmps84
    go_wp2_with fail
    refine HA.out.mono ?_
    rintro e w' ⟨rfl, rfl⟩
    go_wp2_with fail
    go_returns
    have hg : (s.set (8 * q + r) false).many q + 1 = s.many q := by have := HM.out; omega
    exact ⟨rfl, HH.out.put hq hr false _ (by omega), only_set (only_set (World.grownBy.refl _ _) _ _) _ _⟩
/-- Whose a port is. -/
def six0 : Six := ⟨0, 0, 0, 0, 0, 0, 0, 0⟩
def PS.who (s : PS) (p : Int) : Six := if s.has p = true then s.own ((p - 1024).toNat / 8) else six0
end Go.Proofs.YtbjogkpepfgegaaGreatDoor
namespace Go.Proofs.YtbjogkpepfgegaaGreatDoor
open Go.RowKit
/-- Ports of which none is taken. -/
def PS.zero (n : Nat) : PS := ⟨n, fun _ => six0, fun _ => false⟩
theorem PS.zero_many (n k : Nat) : (PS.zero n).many k = 0 := Pl.cnt_none fun _ _ => rfl
theorem Tryz.infoBlock : (Tryz.prog.info? 189).map (fun i => (i.zero, i.size, i.bytes)) = some (some (.agg #[.int .i64 0, .int .i64 0, .int .i64 0, .int .i64 0, .int .i64 0, .int .i64 0, .int .i64 0, .int .i64 0, .bool false, .bool false, .bool false, .bool false, .bool false, .bool false, .bool false, .bool false, .int .i64 0]), 17, 80) := by kernel_rfl
theorem Tryz.sizeBlock : (Tryz.prog.info? 189).map (·.size) = some 17 := by kernel_rfl
theorem z17_at (i : Nat) : (#[.int .i64 0, .int .i64 0, .int .i64 0, .int .i64 0, .int .i64 0, .int .i64 0, .int .i64 0, .int .i64 0, .bool false, .bool false, .bool false, .bool false, .bool false, .bool false, .bool false, .bool false, .int .i64 0] : Array Value)[i % 17]! = (PS.zero (i / 17 + 1)).cell i := by
  have h : i % 17 < 17 := Nat.mod_lt _ (by omega)
  have e : i = 17 * (i / 17) + i % 17 := by omega
  obtain ⟨q, hq⟩ : ∃ q, i / 17 = q := ⟨_, rfl⟩
  obtain ⟨r, hr⟩ : ∃ r, i % 17 = r := ⟨_, rfl⟩
  unfold PS.cell
  rw [hq, hr, PS.zero_many]
  rw [hr] at h
  have h : r = 0 ∨ r = 1 ∨ r = 2 ∨ r = 3 ∨ r = 4 ∨ r = 5 ∨ r = 6 ∨ r = 7 ∨ r = 8 ∨ r = 9 ∨ r = 10 ∨ r = 11 ∨ r = 12 ∨ r = 13 ∨ r = 14 ∨ r = 15 ∨ r = 16 := by omega
  rcases h with rfl | rfl | rfl | rfl | rfl | rfl | rfl | rfl | rfl | rfl | rfl | rfl | rfl | rfl | rfl | rfl | rfl <;> rfl
theorem PS.zero_cells (n : Nat) : madeCells #[.int .i64 0, .int .i64 0, .int .i64 0, .int .i64 0, .int .i64 0, .int .i64 0, .int .i64 0, .int .i64 0, .bool false, .bool false, .bool false, .bool false, .bool false, .bool false, .bool false, .bool false, .int .i64 0] (n * 17) = (PS.zero n).cells := by
  refine Array.ext_getElem? fun i => ?_
  by_cases hi : i < 17 * n
  · rw [PS.cells_at _ (show i < 17 * (PS.zero n).n from hi)]
    unfold madeCells
    rw [Array.getElem?_map, Array.getElem?_range]
    rw [if_pos (by omega)]
    show some ((#[.int .i64 0, .int .i64 0, .int .i64 0, .int .i64 0, .int .i64 0, .int .i64 0, .int .i64 0, .int .i64 0, .bool false, .bool false, .bool false, .bool false, .bool false, .bool false, .bool false, .bool false, .int .i64 0] : Array Value)[i % 17]!) = _
    rw [z17_at]
    unfold PS.cell
    rw [PS.zero_many, PS.zero_many]
    rfl
  · rw [PS.cells_out _ (show ¬ i < 17 * (PS.zero n).n from hi), Array.getElem?_eq_none (by rw [size_madeCells]; omega)]
theorem make_blocks (n : Nat) (hn : n ≤ 16) (w : World) : (Instr.makeSlice 155 (.int .i64 (n : Int)) (.int .i64 (n : Int))).run Tryz.prog w = .ok (.slice (some ⟨w.heap.size, 0, none⟩) n n) (w.alloc (.cells (PS.zero n).cells 189)) := by
  obtain ⟨i, hi, he⟩ := Option.map_eq_some_iff.1 Tryz.infoBlock
  obtain ⟨h0, h1, h2⟩ : i.zero = some (.agg #[.int .i64 0, .int .i64 0, .int .i64 0, .int .i64 0, .int .i64 0, .int .i64 0, .int .i64 0, .int .i64 0, .bool false, .bool false, .bool false, .bool false, .bool false, .bool false, .bool false, .bool false, .int .i64 0]) ∧ i.size = 17 ∧ i.bytes = 80 := by
    simpa using he
  have := run_makeSlice (P := Tryz.prog) w 155 189 i (.agg #[.int .i64 0, .int .i64 0, .int .i64 0, .int .i64 0, .int .i64 0, .int .i64 0, .int .i64 0, .int .i64 0, .bool false, .bool false, .bool false, .bool false, .bool false, .bool false, .bool false, .bool false, .int .i64 0]) Tryz.underlying155 hi h0 .i64 .i64 (n : Int) (n : Int) (by omega) (by omega) (by rw [h1, Int.toNat_natCast]; omega) (by rw [h2]; omega) (by omega)
  have hc : (Value.agg #[.int .i64 0, .int .i64 0, .int .i64 0, .int .i64 0, .int .i64 0, .int .i64 0, .int .i64 0, .int .i64 0, .bool false, .bool false, .bool false, .bool false, .bool false, .bool false, .bool false, .bool false, .int .i64 0]).cells = #[.int .i64 0, .int .i64 0, .int .i64 0, .int .i64 0, .int .i64 0, .int .i64 0, .int .i64 0, .int .i64 0, .bool false, .bool false, .bool false, .bool false, .bool false, .bool false, .bool false, .bool false, .int .i64 0] := rfl
  rw [h1, Int.toNat_natCast, hc, PS.zero_cells] at this
  exact this
set_option maxRecDepth 100000 in
set_option maxHeartbeats 1000000 in
theorem new_ok (n : Nat) (w : World) (h0 : 1 ≤ n) (h1 : n ≤ 16) :
    Calls Tryz.prog 51 #[.int .i64 (n : Int)] w fun e w' => ∃ gP gB, e = .returned (.tuple #[.pointer (some ⟨gP, 0, none⟩), .nilIface]) ∧ Prt w' gP gB (PS.zero n) ∧ Ext w w' ∧ w.heap.size ≤ gP ∧ w.heap.size ≤ gB := by
  have hmk := make_blocks n h1
  have d1 : decide ((n : Int) < 1) = false := decide_eq_false (by omega)
  have d2 : decide ((16 : Int) < (n : Int)) = false := decide_eq_false (by omega)
  go_enter Tryz.func51, Tryz.ntmps51
  go_wp2
  go_returns
  refine ⟨w.heap.size + 1, w.heap.size, ?_, ⟨?_, ?_, by omega, h0, h1⟩, ?_, by omega, by omega⟩
  · simp
  · exact Blk.at _ _ _ (by simp)
  · exact (Blk.new w _ _).alloc _
  · exact ((Ext.refl w).alloc _).alloc _
set_option maxRecDepth 100000 in
theorem new_no (n : Int) (w : World) (h : n < 1 ∨ 16 < n) :
    Calls Tryz.prog 51 #[.int .i64 n] w fun e w' => e = .returned (.tuple #[.pointer none, errv 1]) ∧ w' = w := by
  unfold errv
  by_cases h0 : n < 1
  · have d1 : decide (n < 1) = true := decide_eq_true h0
    clear h
    go_enter Tryz.func51, Tryz.ntmps51
    go_wp2
    go_returns
    exact ⟨rfl, rfl⟩
  · have d1 : decide (n < 1) = false := decide_eq_false h0
    have d2 : decide (16 < n) = true := decide_eq_true (by omega)
    clear h
    go_enter Tryz.func51, Tryz.ntmps51
    go_wp2
    go_returns
    exact ⟨rfl, rfl⟩
/-- How many ports are free. -/
def PS.used (s : PS) (k : Nat) : Nat := Pl.cnt s.tk 0 (8 * k)
def PS.free (s : PS) : Int := 8 * (s.n : Int) - (s.used s.n : Int)
theorem PS.used_step (s : PS) (k : Nat) : s.used (k + 1) = s.used k + s.many k := by
  unfold PS.used PS.many
  rw [show 8 * (k + 1) = 8 * k + 8 by omega, Pl.cnt_add, Nat.zero_add]
/-- A block's cells. -/
def PS.blk (s : PS) (k : Nat) : Array Value := Array.ofFn (n := 17) fun j => s.cell (17 * k + j)
theorem PS.blk_at (s : PS) (k : Nat) {j : Nat} (h : j < 17) : (s.blk k)[j]? = some (s.cell (17 * k + j)) := by
  unfold PS.blk
  rw [Array.getElem?_ofFn, dif_pos h]
theorem PS.cell_one (s : PS) (i : Nat) : (s.cell i).oneCell' = true := by
  unfold PS.cell
  split
  · rfl
  · split <;> rfl
theorem PS.blk_one (s : PS) (k : Nat) : (s.blk k).all (·.oneCell') = true := by
  rw [Array.all_eq_true_iff_forall_mem]
  intro v hv
  obtain ⟨i, hi⟩ := Array.mem_iff_getElem?.1 hv
  have hlt : i < 17 := by
    have := (Array.getElem?_eq_some_iff.1 hi).1
    simpa [PS.blk] using this
  rw [s.blk_at k hlt] at hi
  rw [← Option.some.inj hi]
  exact s.cell_one _
theorem Prt.blk {w : World} {gP gB : Nat} {s : PS} (h : Prt w gP gB s) {k : Nat} (hk : k < s.n) : (Instr.loadAt 189 (.pointer (some ⟨gB, k * 17, none⟩))).run Tryz.prog w = .ok (.agg (s.blk k)) w := by
  have := run_loadAt_mid (P := Tryz.prog) w gB (k * 17) 189 (s.blk k).toList _ (fun j v hv => by
    rw [Array.getElem?_toList] at hv
    have hj : j < 17 := by
      have := (Array.getElem?_eq_some_iff.1 hv).1
      simpa [PS.blk] using this
    rw [s.blk_at k hj] at hv
    rw [h.row.cells, show k * 17 + j = 17 * k + j by omega, s.cells_at (by omega)]
    exact hv) Tryz.underlying189 rfl (Tryz.sizeBlock.trans (by simp [PS.blk]))
  rw [Array.toArray_toList] at this
  exact this
end Go.Proofs.YtbjogkpepfgegaaGreatDoor
namespace Go.Proofs.YtbjogkpepfgegaaGreatDoor
open Go.RowKit
/-- Who has which port, in the order of their taking. -/
structure PA (s : PS) (q : List (Nat × Six)) : Prop where
  mem : ∀ x ∈ q, x.1 < 8 * s.n ∧ s.tk x.1 = true ∧ s.own (x.1 / 8) = x.2
  nd : (q.map (·.1)).Nodup
  many : s.used s.n = q.length
namespace PA
theorem zero (n : Nat) : PA (PS.zero n) [] := ⟨fun _ h => (List.not_mem_nil h).elim, List.nodup_nil, Pl.cnt_none (t := fun _ => false) (fun _ _ => rfl)⟩
/-- The port that Take gives. -/
def gets (s : PS) (who : Six) : Nat := 8 * s.pick who + s.low (s.pick who)
theorem gets_div {s : PS} {who : Six} (h : s.low (s.pick who) < 8) : gets s who / 8 = s.pick who := by unfold gets; omega
theorem pick_facts {s : PS} {who : Six} (h : s.takeQ who = 0) : s.pick who < s.n ∧ s.many (s.pick who) < 8 ∧ (s.own (s.pick who) = who ∨ s.many (s.pick who) = 0) := by
  unfold PS.takeQ at h
  split at h
  · split at h
    · rename_i h1
      refine ⟨h1, ?_⟩
      unfold PS.pick at h1 ⊢
      split at h1
      · rename_i h2
        have h3 := PS.mine_all (Pl.first_at h2)
        rw [if_pos h2]
        exact ⟨h3.2.1, .inl h3.2.2⟩
      · rename_i h2
        have h3 : (s.many (Pl.first s.fresh s.n) == 0) = true := Pl.first_at h1
        have h4 : s.many (Pl.first s.fresh s.n) = 0 := by simpa using h3
        rw [if_neg h2]
        exact ⟨by rw [h4]; omega, .inr h4⟩
    · omega
  · omega
theorem low_free {s : PS} {k : Nat} (h : s.many k < 8) : s.tk (8 * k + s.low k) = false := by
  have h1 : (!s.tk (8 * k + s.low k)) = true := Pl.first_at (p := fun j => !s.tk (8 * k + j)) (m := 8) (PS.low_lt h)
  simpa using h1
theorem set_n (s : PS) (i : Nat) (b : Bool) : (s.set i b).n = s.n := rfl
theorem give_n (s : PS) (i : Nat) (b : Six) : (s.give i b).n = s.n := rfl
theorem give_used (s : PS) (k : Nat) (b : Six) (i : Nat) (c : Bool) (m : Nat) : ((s.give k b).set i c).used m = (s.set i c).used m := rfl
theorem used_set (s : PS) {i : Nat} (b : Bool) (hi : i < 8 * s.n) : (s.set i b).used s.n + (if s.tk i = true then 1 else 0) = s.used s.n + (if b = true then 1 else 0) :=
  Pl.cnt_put s.tk 0 i b (8 * s.n) (by omega) (by omega)
theorem take {s : PS} {q : List (Nat × Six)} (h : PA s q) {who : Six} (hq : s.takeQ who = 0) :
    PA (s.take who) (q ++ [(gets s who, who)]) ∧ s.takeN who = 1024 + (gets s who : Int) ∧ gets s who < 8 * s.n ∧ (s.take who).n = s.n := by
  obtain ⟨hp, hm, ho⟩ := pick_facts hq
  have hl := PS.low_lt hm
  have hf := low_free hm
  have hlt : gets s who < 8 * s.n := by unfold gets; omega
  have hd := gets_div hl
  have ht : s.take who = (s.give (s.pick who) who).set (gets s who) true := by unfold PS.take; rw [if_pos hq]; rfl
  have hN : s.takeN who = 1024 + (gets s who : Int) := by unfold PS.takeN gets; rw [if_pos hq]; omega
  have hne : ∀ x ∈ q, x.1 ≠ gets s who := fun x hx he => by
    have := (h.mem x hx).2.1
    rw [he] at this
    unfold gets at this
    rw [hf] at this
    cases this
  rw [ht]
  refine ⟨⟨fun x hx => ?_, ?_, ?_⟩, hN, hlt, rfl⟩
  · rcases List.mem_append.1 hx with hx | hx
    · obtain ⟨h1, h2, h3⟩ := h.mem x hx
      refine ⟨h1, ?_, ?_⟩
      · show Pl.upd s.tk (gets s who) true x.1 = true
        rw [Pl.upd_other _ _ (hne x hx)]
        exact h2
      · show Pl.upd s.own (s.pick who) who (x.1 / 8) = x.2
        by_cases hk : x.1 / 8 = s.pick who
        · rw [hk, Pl.upd_same]
          rcases ho with ho | ho
          · rw [← ho, ← hk]; exact h3
          · have h5 : s.tk (8 * s.pick who + x.1 % 8) = false := Pl.cnt_zero (m := 8) ho (x.1 % 8) (by omega)
            rw [show 8 * s.pick who + x.1 % 8 = x.1 by omega, h2] at h5
            cases h5
        · rw [Pl.upd_other _ _ hk]
          exact h3
    · have hx' : x = (gets s who, who) := List.mem_singleton.1 hx
      have e1 : x.1 = gets s who := congrArg Prod.fst hx'
      have e2 : x.2 = who := congrArg Prod.snd hx'
      rw [e1, e2]
      generalize gets s who = g at *
      refine ⟨hlt, ?_, ?_⟩
      · show Pl.upd s.tk g true g = true
        exact Pl.upd_same _ _ _
      · show Pl.upd s.own (s.pick who) who (g / 8) = who
        rw [hd]
        exact Pl.upd_same _ _ _
  · rw [List.map_append, List.map_cons, List.map_nil]
    refine List.nodup_append.2 ⟨h.nd, by simp, fun a ha b hb => ?_⟩
    obtain ⟨x, hx, rfl⟩ := List.mem_map.1 ha
    obtain rfl := List.mem_singleton.1 hb
    exact hne x hx
  · have hu := used_set s true hlt
    have hf' : s.tk (gets s who) = false := hf
    generalize gets s who = g at *
    rw [hf'] at hu
    have hu : (s.set g true).used s.n + 0 = s.used s.n + 1 := hu
    rw [set_n, give_n, give_used, List.length_append, List.length_singleton, ← h.many]
    omega
theorem back {s : PS} {l m : List (Nat × Six)} {x : Nat × Six} (h : PA s (l ++ x :: m)) : PA (s.back (1024 + (x.1 : Int))) (l ++ m) ∧ s.has (1024 + (x.1 : Int)) = true ∧ (s.back (1024 + (x.1 : Int))).n = s.n := by
  obtain ⟨h1, h2, h3⟩ := h.mem x (List.mem_append_right _ (List.mem_cons_self ..))
  have hh := PS.has_of h1 h2
  have hb : s.back (1024 + (x.1 : Int)) = s.set x.1 false := by unfold PS.back; rw [if_pos hh, show 1024 + (x.1 : Int) - 1024 = (x.1 : Int) by omega, Int.toNat_natCast]
  have hp : (l ++ x :: m).Perm (x :: (l ++ m)) := List.perm_middle
  have hnd : ((x :: (l ++ m)).map (·.1)).Nodup := (hp.map _).nodup_iff.1 h.nd
  rw [List.map_cons, List.nodup_cons] at hnd
  rw [hb]
  refine ⟨⟨fun y hy => ?_, hnd.2, ?_⟩, hh, rfl⟩
  · obtain ⟨g1, g2, g3⟩ := h.mem y (hp.symm.subset (List.mem_cons_of_mem _ hy))
    refine ⟨g1, ?_, g3⟩
    show Pl.upd s.tk x.1 false y.1 = true
    rw [Pl.upd_other _ _ (fun he => hnd.1 (by rw [← he]; exact List.mem_map_of_mem hy))]
    exact g2
  · have hu := used_set s false h1
    rw [h2, if_pos rfl, if_neg (by decide)] at hu
    have hlen := h.many
    rw [hp.length_eq, List.length_cons] at hlen
    rw [set_n]
    omega
/-- What the law asks of one port that is taken. -/
theorem one {s : PS} {q : List (Nat × Six)} (h : PA s q) {k : Nat} {x : Nat × Six} (hx : q[k]? = some x) : s.has (1024 + (x.1 : Int)) = true ∧ s.who (1024 + (x.1 : Int)) = x.2 ∧ x.1 < 8 * s.n := by
  obtain ⟨h1, h2, h3⟩ := h.mem x (List.mem_of_getElem? hx)
  have hh := PS.has_of h1 h2
  refine ⟨hh, ?_, h1⟩
  unfold PS.who
  rw [if_pos hh, show 1024 + (x.1 : Int) - 1024 = (x.1 : Int) by omega, Int.toNat_natCast]
  exact h3
/-- Of two ports that are taken. -/
theorem two {s : PS} {q : List (Nat × Six)} (h : PA s q) {j k : Nat} {x y : Nat × Six} (hjk : j < k) (hx : q[j]? = some x) (hy : q[k]? = some y) : x.1 ≠ y.1 ∧ (x.1 / 8 = y.1 / 8 → x.2 = y.2) := by
  obtain ⟨_, _, h3⟩ := h.mem x (List.mem_of_getElem? hx)
  obtain ⟨_, _, g3⟩ := h.mem y (List.mem_of_getElem? hy)
  refine ⟨fun he => ?_, fun he => by rw [← h3, ← g3, he]⟩
  have h1 : (q.map (·.1))[j]? = some x.1 := by rw [List.getElem?_map, hx]; rfl
  have h2 : (q.map (·.1))[k]? = some y.1 := by rw [List.getElem?_map, hy]; rfl
  have hj := (List.getElem?_eq_some_iff.1 h1).1
  have := (List.getElem?_inj (j := k) hj h.nd).1 (by rw [h1, h2, he])
  omega
end PA
end Go.Proofs.YtbjogkpepfgegaaGreatDoor
namespace Go.Proofs.YtbjogkpepfgegaaGreatDoor
open Go.RowKit
/-- The document's state: whose each port is, which are taken. -/
structure RS where
  n : Nat
  wh : Nat → Six
  tk : Nat → Bool
namespace RS
def cell (r : RS) (i : Nat) : Value := .int .i64 ((r.wh (i / 8)).l.getD (i % 8) 0)
def whos (r : RS) : Array Value := Array.ofFn (n := 8 * r.n * 8) fun i => r.cell i
def taken (r : RS) : Array Value := Array.ofFn (n := 8 * r.n) fun i => .bool (r.tk i)
def set (r : RS) (i : Nat) (b : Bool) : RS := { r with tk := Pl.upd r.tk i b }
def give (r : RS) (i : Nat) (who : Six) : RS := { r with wh := Pl.upd r.wh i who }
theorem taken_at (r : RS) {i : Nat} (h : i < 8 * r.n) : r.taken[i]? = some (.bool (r.tk i)) := by
  unfold taken
  rw [Array.getElem?_ofFn, dif_pos h]
theorem taken_out (r : RS) {i : Nat} (h : ¬ i < 8 * r.n) : r.taken[i]? = none := by
  unfold taken
  rw [Array.getElem?_ofFn, dif_neg h]
theorem whos_at (r : RS) {i : Nat} (h : i < 8 * r.n * 8) : r.whos[i]? = some (r.cell i) := by
  unfold whos
  rw [Array.getElem?_ofFn, dif_pos h]
theorem whos_out (r : RS) {i : Nat} (h : ¬ i < 8 * r.n * 8) : r.whos[i]? = none := by
  unfold whos
  rw [Array.getElem?_ofFn, dif_neg h]
theorem cell_at (r : RS) (k : Nat) {j : Nat} (h : j < 8) : r.cell (k * 8 + j) = .int .i64 ((r.wh k).l.getD j 0) := by
  have e1 : (k * 8 + j) % 8 = j := by omega
  have e2 : (k * 8 + j) / 8 = k := by omega
  unfold cell
  rw [e1, e2]
theorem taken_set (r : RS) (i : Nat) (b : Bool) : r.taken.setIfInBounds i (.bool b) = (r.set i b).taken := by
  refine Array.ext_getElem? fun j => ?_
  have hsz : r.taken.size = 8 * r.n := by simp [taken]
  rw [Array.getElem?_setIfInBounds, hsz]
  by_cases hj : j < 8 * r.n
  · rw [taken_at (r.set i b) (show j < 8 * (r.set i b).n from hj)]
    by_cases he : i = j
    · subst he
      rw [if_pos rfl, if_pos hj]
      exact congrArg (fun x => some (Value.bool x)) (Pl.upd_same r.tk i b).symm
    · rw [if_neg he, taken_at r hj]
      exact congrArg (fun x => some (Value.bool x)) (Pl.upd_other r.tk b (fun h => he h.symm)).symm
  · rw [taken_out (r.set i b) (show ¬ j < 8 * (r.set i b).n from hj)]
    by_cases he : i = j
    · rw [if_pos he, if_neg (by omega)]
    · rw [if_neg he, taken_out r hj]
theorem whos_give (r : RS) {i : Nat} (who : Six) (hi : i < 8 * r.n) : PS.puts r.whos (i * 8) who.cells.toList = (r.give i who).whos := by
  refine Array.ext_getElem? fun j => ?_
  have hsz : r.whos.size = 8 * r.n * 8 := by simp [whos]
  rw [PS.puts_get, show who.cells.toList.length = 8 from rfl, hsz]
  by_cases hj : j < 8 * r.n * 8
  case neg =>
    rw [whos_out (r.give i who) (show ¬ j < 8 * (r.give i who).n * 8 from hj), if_neg (by omega), whos_out r hj]
  rw [whos_at (r.give i who) (show j < 8 * (r.give i who).n * 8 from hj)]
  obtain ⟨k, m, hm, rfl⟩ : ∃ k m, m < 8 ∧ j = k * 8 + m := ⟨j / 8, j % 8, by omega, by omega⟩
  rw [cell_at _ k hm]
  by_cases he : k = i
  · subst he
    rw [if_pos (by omega), show k * 8 + m - k * 8 = m by omega, Array.getElem?_toList, who.cells_at m hm]
    exact congrArg (fun x : Six => some (Value.int .i64 (x.l.getD m 0))) (Pl.upd_same r.wh k who).symm
  · rw [if_neg (by omega), whos_at r hj, cell_at r k hm]
    exact congrArg (fun x : Six => some (Value.int .i64 (x.l.getD m 0))) (Pl.upd_other r.wh who he).symm
end RS
/-- Only blocks g and h have turned (and what is new). -/
structure Two (a b : World) (g h : Nat) : Prop where
  os : b.os = a.os
  tape : b.tape = a.tape
  output : b.output = a.output
  size : a.heap.size ≤ b.heap.size
  block : ∀ i, i < a.heap.size → i ≠ g → i ≠ h → b.heap[i]? = a.heap[i]?
section
variable {a b c : World} {g h : Nat}
theorem Two.refl (a : World) (g h : Nat) : Two a a g h := ⟨rfl, rfl, rfl, Nat.le_refl _, fun _ _ _ _ => rfl⟩
theorem Two.trans (p : Two a b g h) (q : Two b c g h) : Two a c g h :=
  ⟨q.os.trans p.os, q.tape.trans p.tape, q.output.trans p.output, Nat.le_trans p.size q.size, fun i hi h1 h2 => (q.block i (Nat.lt_of_lt_of_le hi p.size) h1 h2).trans (p.block i hi h1 h2)⟩
theorem Ext.two (p : Ext a b) : Two a b g h := ⟨p.os, p.tape, p.output, p.size, fun i hi _ _ => p.block i hi⟩
theorem Two.left (p : a.grownBy b (some g)) : Two a b g h := ⟨p.os, p.tape, p.output, p.size, fun i hi h1 _ => p.block i hi (fun e => h1 (Option.some.inj e))⟩
theorem Two.right (p : a.grownBy b (some h)) : Two a b g h := ⟨p.os, p.tape, p.output, p.size, fun i hi _ h2 => p.block i hi (fun e => h2 (Option.some.inj e))⟩
theorem Blk.two {t : TypeId} {cs : Array Value} {k : Nat} (q : Blk a k t cs) (p : Two a b g h) (h1 : k ≠ g) (h2 : k ≠ h) : Blk b k t cs := (p.block k q.lt h1 h2).trans q
theorem Prt.two {gP gB : Nat} {s : PS} (q : Prt a gP gB s) (p : Two a b g h) (h1 : gP ≠ g ∧ gP ≠ h) (h2 : gB ≠ g ∧ gB ≠ h) : Prt b gP gB s := ⟨q.ptr.two p h1.1 h1.2, q.row.two p h2.1 h2.2, q.ne, q.n0, q.n1⟩
theorem Below.two {B : Nat} (q : Below B a b) (p : Two b c g h) (hB : B ≤ b.heap.size) (h1 : B ≤ g) (h2 : B ≤ h) : Below B a c :=
  q.trans ⟨p.os, p.tape, p.output, p.size, fun i hi => p.block i (by omega) (by omega) (by omega)⟩
end
namespace Rrt
variable {w w' : World} {gM gW gT : Nat} {r : RS}
end Rrt
/-- Both hold the same. -/
structure Like (s : PS) (r : RS) : Prop where
  n : r.n = s.n
  tk : r.tk = s.tk
  wh : ∀ i, i < 8 * s.n → s.tk i = true → r.wh i = s.own (i / 8)
/-- Whose a block is. -/
def PS.hold (s : PS) (k : Nat) : Six := if s.many k = 0 then six0 else s.own k
def PS.is (s : PS) (k : Nat) : Bool := decide (0 < s.many k)
theorem Like.back {s : PS} {r : RS} (hL : Like s r) {i : Nat} (h : s.has (1024 + (i : Int)) = true) : Like (s.back (1024 + (i : Int))) (r.set i false) := by
  have hb : s.back (1024 + (i : Int)) = s.set i false := by unfold PS.back; rw [if_pos h, show 1024 + (i : Int) - 1024 = (i : Int) by omega, Int.toNat_natCast]
  rw [hb]
  refine ⟨hL.n, ?_, fun j hj ht => ?_⟩
  · show Pl.upd r.tk i false = Pl.upd s.tk i false
    rw [hL.tk]
  · have ht' : Pl.upd s.tk i false j = true := ht
    refine hL.wh j hj ?_
    by_cases he : j = i
    · rw [he, Pl.upd_same] at ht'; cases ht'
    · rw [Pl.upd_other _ _ he] at ht'; exact ht'
end Go.Proofs.YtbjogkpepfgegaaGreatDoor
namespace Go.Proofs.YtbjogkpepfgegaaGreatDoor
open Go.RowKit
/-- Of what was there nothing has changed, but at some blocks. -/
structure Kp (S : List Nat) (a b : World) : Prop where
  os : b.os = a.os
  tape : b.tape = a.tape
  output : b.output = a.output
  size : a.heap.size ≤ b.heap.size
  block : ∀ i, i < a.heap.size → i ∉ S → b.heap[i]? = a.heap[i]?
section
variable {S T : List Nat} {a b c : World}
theorem Kp.refl (S : List Nat) (a : World) : Kp S a a := ⟨rfl, rfl, rfl, Nat.le_refl _, fun _ _ _ => rfl⟩
theorem Kp.trans (h : Kp S a b) (k : Kp S b c) : Kp S a c :=
  ⟨k.os.trans h.os, k.tape.trans h.tape, k.output.trans h.output, Nat.le_trans h.size k.size, fun i hi hn => (k.block i (Nat.lt_of_lt_of_le hi h.size) hn).trans (h.block i hi hn)⟩
theorem Kp.mono (h : Kp S a b) (hs : ∀ g ∈ S, g ∈ T) : Kp T a b := ⟨h.os, h.tape, h.output, h.size, fun i hi hn => h.block i hi fun hm => hn (hs i hm)⟩
theorem Ext.kp (h : Ext a b) (S : List Nat) : Kp S a b := ⟨h.os, h.tape, h.output, h.size, fun i hi _ => h.block i hi⟩
theorem Kp.ofGrown {g : Nat} (h : a.grownBy b (some g)) (hg : g ∈ S) : Kp S a b := ⟨h.os, h.tape, h.output, h.size, fun i hi hn => h.block i hi fun e => hn (by cases e; exact hg)⟩
theorem Kp.ofTwo {g k : Nat} (h : Two a b g k) (hg : g ∈ S) (hk : k ∈ S) : Kp S a b := ⟨h.os, h.tape, h.output, h.size, fun i hi hn => h.block i hi (fun e => hn (e ▸ hg)) (fun e => hn (e ▸ hk))⟩
theorem Kp.ext (h : Kp [] a b) : Ext a b := ⟨h.os, h.tape, h.output, h.size, fun i hi => h.block i hi (fun hm => by cases hm)⟩
theorem Kp.drew (h : Kp S a b) : Kp S a b.drew := ⟨h.os, h.tape, h.output, h.size, h.block⟩
theorem Kp.andExt (h : Kp S a b) (k : Ext b c) : Kp S a c := h.trans (k.kp S)
theorem Kp.row (h : Kp S a b) {k : Nat} (hk : a.heap.size ≤ k) (cs : Array Value) : Kp S a (b.setRow k cs) :=
  ⟨h.os, h.tape, h.output, by simpa using h.size, fun i hi hn => (setRow_other b k i cs (by omega)).trans (h.block i hi hn)⟩
theorem Prt.farRow {gP gB : Nat} {s : PS} (q : Prt a gP gB s) {k : Nat} (h0 : gP ≠ k) (h1 : gB ≠ k) (cs : Array Value) : Prt (a.setRow k cs) gP gB s := ⟨q.ptr.farRow h0 cs, q.row.farRow h1 cs, q.ne, q.n0, q.n1⟩
theorem MapIs.farRow {κ : Type} {K : Keys κ} {g : Nat} {l : List (Ent κ)} {cl : Nat} (q : MapIs K a g l cl) {k : Nat} (hk : g ≠ k) (cs : Array Value) : MapIs K (a.setRow k cs) g l cl := ⟨(setRow_other a k g cs hk).trans q.here, q.old⟩
theorem Kp.below {B : Nat} (h : Kp S a b) (hB : B ≤ a.heap.size) (hS : ∀ g ∈ S, B ≤ g) : Below B a b :=
  ⟨h.os, h.tape, h.output, h.size, fun i hi => h.block i (Nat.lt_of_lt_of_le hi hB) (fun hm => by have := hS i hm; omega)⟩
theorem Below.kp {B : Nat} (q : Below B a b) (h : Kp S b c) (hB : B ≤ b.heap.size) (hS : ∀ g ∈ S, B ≤ g) : Below B a c := q.trans (h.below hB hS)
theorem Blk.kp {t : TypeId} {cs : Array Value} {g : Nat} (q : Blk a g t cs) (h : Kp S a b) (hg : g ∉ S) : Blk b g t cs := (h.block g q.lt hg).trans q
theorem MapIs.kp {κ : Type} {K : Keys κ} {g : Nat} {l : List (Ent κ)} {cl : Nat} (q : MapIs K a g l cl) (h : Kp S a b) (hg : g ∉ S) : MapIs K b g l cl := ⟨(h.block g q.lt hg).trans q.here, q.old⟩
theorem Prt.kp {gP gB : Nat} {s : PS} (q : Prt a gP gB s) (h : Kp S a b) (h0 : gP ∉ S) (h1 : gB ∉ S) : Prt b gP gB s := ⟨q.ptr.kp h h0, q.row.kp h h1, q.ne, q.n0, q.n1⟩
end
end Go.Proofs.YtbjogkpepfgegaaGreatDoor
