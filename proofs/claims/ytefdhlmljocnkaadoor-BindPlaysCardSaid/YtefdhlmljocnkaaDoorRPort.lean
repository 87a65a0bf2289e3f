/- The document's ports: how they lie in memory, and what NewPorts, owner, Has, Give, Free make. Conditions: as each lemma states them. -/
import Derived.Test.YtefdhlmljocnkaaDoorPort3
import Derived.Test.YtefdhlmljocnkaaDoorPortA
import Derived.Test.YtefdhlmljocnkaaDoorRowL
import Derived.Deep.DeepCutAuto
namespace Go.Proofs.YtefdhlmljocnkaaDoor
open Go.RowKit
/-- The document's state: whose each port is, which are taken. -/
structure RS where
  n : Nat
  wh : Nat → Six
  tk : Nat → Bool
namespace RS
def cell (r : RS) (i : Nat) : Value := .int .i64 ((r.wh (i / 8)).l.getD (i % 8) 0)
def whos (r : RS) : Array Value := Array.ofFn (n := 8 * r.n * 8) fun i => r.cell i
def taken (r : RS) : Array Value := Array.ofFn (n := 8 * r.n) fun i => .bool (r.tk i)
def set (r : RS) (i : Nat) (b : Bool) : RS := { r with tk := Pl.upd r.tk i b }
def give (r : RS) (i : Nat) (who : Six) : RS := { r with wh := Pl.upd r.wh i who }
theorem taken_at (r : RS) {i : Nat} (h : i < 8 * r.n) : r.taken[i]? = some (.bool (r.tk i)) := by
  unfold taken
  rw [Array.getElem?_ofFn, dif_pos h]
theorem taken_out (r : RS) {i : Nat} (h : ¬ i < 8 * r.n) : r.taken[i]? = none := by
  unfold taken
  rw [Array.getElem?_ofFn, dif_neg h]
theorem whos_at (r : RS) {i : Nat} (h : i < 8 * r.n * 8) : r.whos[i]? = some (r.cell i) := by
  unfold whos
  rw [Array.getElem?_ofFn, dif_pos h]
theorem whos_out (r : RS) {i : Nat} (h : ¬ i < 8 * r.n * 8) : r.whos[i]? = none := by
  unfold whos
  rw [Array.getElem?_ofFn, dif_neg h]
theorem cell_at (r : RS) (k : Nat) {j : Nat} (h : j < 8) : r.cell (k * 8 + j) = .int .i64 ((r.wh k).l.getD j 0) := by
  have e1 : (k * 8 + j) % 8 = j := by omega
  have e2 : (k * 8 + j) / 8 = k := by omega
  unfold cell
  rw [e1, e2]
theorem taken_set (r : RS) (i : Nat) (b : Bool) : r.taken.setIfInBounds i (.bool b) = (r.set i b).taken := by
  refine Array.ext_getElem? fun j => ?_
  have hsz : r.taken.size = 8 * r.n := by simp [taken]
  rw [Array.getElem?_setIfInBounds, hsz]
  by_cases hj : j < 8 * r.n
  · rw [taken_at (r.set i b) (show j < 8 * (r.set i b).n from hj)]
    by_cases he : i = j
    · subst he
      rw [if_pos rfl, if_pos hj]
      exact congrArg (fun x => some (Value.bool x)) (Pl.upd_same r.tk i b).symm
    · rw [if_neg he, taken_at r hj]
      exact congrArg (fun x => some (Value.bool x)) (Pl.upd_other r.tk b (fun h => he h.symm)).symm
  · rw [taken_out (r.set i b) (show ¬ j < 8 * (r.set i b).n from hj)]
    by_cases he : i = j
    · rw [if_pos he, if_neg (by omega)]
    · rw [if_neg he, taken_out r hj]
theorem whos_give (r : RS) {i : Nat} (who : Six) (hi : i < 8 * r.n) : PS.puts r.whos (i * 8) who.cells.toList = (r.give i who).whos := by
  refine Array.ext_getElem? fun j => ?_
  have hsz : r.whos.size = 8 * r.n * 8 := by simp [whos]
  rw [PS.puts_get, show who.cells.toList.length = 8 from rfl, hsz]
  by_cases hj : j < 8 * r.n * 8
  case neg =>
    rw [whos_out (r.give i who) (show ¬ j < 8 * (r.give i who).n * 8 from hj), if_neg (by omega), whos_out r hj]
  rw [whos_at (r.give i who) (show j < 8 * (r.give i who).n * 8 from hj)]
  obtain ⟨k, m, hm, rfl⟩ : ∃ k m, m < 8 ∧ j = k * 8 + m := ⟨j / 8, j % 8, by omega, by omega⟩
  rw [cell_at _ k hm]
  by_cases he : k = i
  · subst he
    rw [if_pos (by omega), show k * 8 + m - k * 8 = m by omega, Array.getElem?_toList, who.cells_at m hm]
    exact congrArg (fun x : Six => some (Value.int .i64 (x.l.getD m 0))) (Pl.upd_same r.wh k who).symm
  · rw [if_neg (by omega), whos_at r hj, cell_at r k hm]
    exact congrArg (fun x : Six => some (Value.int .i64 (x.l.getD m 0))) (Pl.upd_other r.wh who he).symm
end RS
/-- Only blocks g and h have turned (and what is new). -/
structure Two (a b : World) (g h : Nat) : Prop where
  os : b.os = a.os
  tape : b.tape = a.tape
  output : b.output = a.output
  size : a.heap.size ≤ b.heap.size
  block : ∀ i, i < a.heap.size → i ≠ g → i ≠ h → b.heap[i]? = a.heap[i]?
section
variable {a b c : World} {g h : Nat}
theorem Two.refl (a : World) (g h : Nat) : Two a a g h := ⟨rfl, rfl, rfl, Nat.le_refl _, fun _ _ _ _ => rfl⟩
theorem Two.trans (p : Two a b g h) (q : Two b c g h) : Two a c g h :=
  ⟨q.os.trans p.os, q.tape.trans p.tape, q.output.trans p.output, Nat.le_trans p.size q.size, fun i hi h1 h2 => (q.block i (Nat.lt_of_lt_of_le hi p.size) h1 h2).trans (p.block i hi h1 h2)⟩
theorem Ext.two (p : Ext a b) : Two a b g h := ⟨p.os, p.tape, p.output, p.size, fun i hi _ _ => p.block i hi⟩
theorem Two.left (p : a.grownBy b (some g)) : Two a b g h := ⟨p.os, p.tape, p.output, p.size, fun i hi h1 _ => p.block i hi (fun e => h1 (Option.some.inj e))⟩
theorem Two.right (p : a.grownBy b (some h)) : Two a b g h := ⟨p.os, p.tape, p.output, p.size, fun i hi _ h2 => p.block i hi (fun e => h2 (Option.some.inj e))⟩
theorem Blk.two {t : TypeId} {cs : Array Value} {k : Nat} (q : Blk a k t cs) (p : Two a b g h) (h1 : k ≠ g) (h2 : k ≠ h) : Blk b k t cs := (p.block k q.lt h1 h2).trans q
theorem Prt.two {gP gB : Nat} {s : PS} (q : Prt a gP gB s) (p : Two a b g h) (h1 : gP ≠ g ∧ gP ≠ h) (h2 : gB ≠ g ∧ gB ≠ h) : Prt b gP gB s := ⟨q.ptr.two p h1.1 h1.2, q.row.two p h2.1 h2.2, q.ne, q.n0, q.n1⟩
theorem Below.two {B : Nat} (q : Below B a b) (p : Two b c g h) (hB : B ≤ b.heap.size) (h1 : B ≤ g) (h2 : B ≤ h) : Below B a c :=
  q.trans ⟨p.os, p.tape, p.output, p.size, fun i hi => p.block i (by omega) (by omega) (by omega)⟩
end
/-- The document's ports lie in memory. -/
structure Rrt (w : World) (gM gW gT : Nat) (r : RS) : Prop where
  ptr : Blk w gM 138 #[.slice (some ⟨gW, 0, none⟩) (8 * r.n) (8 * r.n), .slice (some ⟨gT, 0, none⟩) (8 * r.n) (8 * r.n)]
  who : Blk w gW 23 r.whos
  tak : Blk w gT 4 r.taken
  ne : gM ≠ gW ∧ gM ≠ gT ∧ gW ≠ gT
  n0 : 1 ≤ r.n
  n1 : r.n ≤ 16
namespace Rrt
variable {w w' : World} {gM gW gT : Nat} {r : RS}
theorem c0 (h : Rrt w gM gW gT r) : w.cell? ⟨gM, 0, none⟩ = some (.slice (some ⟨gW, 0, none⟩) (8 * r.n) (8 * r.n)) := h.ptr.cells 0
theorem c1 (h : Rrt w gM gW gT r) : w.cell? ⟨gM, 1, none⟩ = some (.slice (some ⟨gT, 0, none⟩) (8 * r.n) (8 * r.n)) := h.ptr.cells 1
theorem tk (h : Rrt w gM gW gT r) {i : Nat} (hi : i < 8 * r.n) : w.cell? ⟨gT, i, none⟩ = some (.bool (r.tk i)) := by rw [h.tak.cells, r.taken_at hi]
theorem wh (h : Rrt w gM gW gT r) {i : Nat} (hi : i < 8 * r.n) : (Instr.loadAt 23 (.pointer (some ⟨gW, i * 8, none⟩))).run Tryd.prog w = .ok (.agg (r.wh i).cells) w :=
  h.who.six (i * 8) (r.wh i) fun j hj => by
    rw [r.whos_at (by omega), r.cell_at i hj, Six.cells_at _ j hj]
theorem ext (h : Rrt w gM gW gT r) (k : Ext w w') : Rrt w' gM gW gT r := ⟨h.ptr.ext k, h.who.ext k, h.tak.ext k, h.ne, h.n0, h.n1⟩
theorem drew (h : Rrt w gM gW gT r) : Rrt w.drew gM gW gT r := ⟨h.ptr.drew, h.who.drew, h.tak.drew, h.ne, h.n0, h.n1⟩
theorem only {g : Nat} (h : Rrt w gM gW gT r) (k : w.grownBy w' (some g)) (h0 : gM ≠ g) (h1 : gW ≠ g) (h2 : gT ≠ g) : Rrt w' gM gW gT r := ⟨h.ptr.only k h0, h.who.only k h1, h.tak.only k h2, h.ne, h.n0, h.n1⟩
theorem put (h : Rrt w gM gW gT r) (i : Nat) (b : Bool) : Rrt (w.setCell ⟨gT, i, none⟩ (.bool b)) gM gW gT (r.set i b) :=
  ⟨h.ptr.far h.ne.2.1 _, h.who.far h.ne.2.2 _, by rw [← r.taken_set i b]; exact h.tak.put i _, h.ne, h.n0, h.n1⟩
theorem give (h : Rrt w gM gW gT r) {i : Nat} (hi : i < 8 * r.n) (who : Six) : Rrt (w.setCells gW (i * 8) who.cells.toList) gM gW gT (r.give i who) := by
  refine ⟨h.ptr.only (only_cells _ _ (World.grownBy.refl _ _)) h.ne.1, ?_, h.tak.only (only_cells _ _ (World.grownBy.refl _ _)) (fun e => h.ne.2.2 e.symm), h.ne, h.n0, h.n1⟩
  rw [← r.whos_give who hi]
  exact h.who.puts _ _
theorem swho (h : Rrt w gM gW gT r) {i : Nat} (hi : i < 8 * r.n) (who : Six) : (Instr.storeAt 23 (.pointer (some ⟨gW, i * 8, none⟩)) (.agg who.cells)).run Tryd.prog w = .ok () (w.setCells gW (i * 8) who.cells.toList) :=
  run_storeAt_mid w gW (i * 8) _ who.cells (fun j hj => by
    have hj : j < 8 := hj
    refine ⟨?_, h.who.free _⟩
    rw [h.who.cells, r.whos_at (by omega)]
    rfl) Tryd.size6 (by simp [Six.cells, Value.oneCell'])
end Rrt
/-- Both hold the same. -/
structure Like (s : PS) (r : RS) : Prop where
  n : r.n = s.n
  tk : r.tk = s.tk
  wh : ∀ i, i < 8 * s.n → s.tk i = true → r.wh i = s.own (i / 8)
/-- Whose a block is. -/
def PS.hold (s : PS) (k : Nat) : Six := if s.many k = 0 then six0 else s.own k
def PS.is (s : PS) (k : Nat) : Bool := decide (0 < s.many k)
set_option maxRecDepth 100000 in
set_option maxHeartbeats 1000000 in
theorem rowner_any (gM gW gT : Nat) (s : PS) (r : RS) (k : Nat) (w : World) (h : Rrt w gM gW gT r) (hL : Like s r) (hk : k < s.n) :
    Calls Tryd.prog 69 #[.pointer (some ⟨gM, 0, none⟩), .int .i64 (k : Int)] w fun e w' => e = .returned (.tuple #[(s.hold k).v, .bool (s.is k)]) ∧ Ext w w' := by
  have hn := h.n1
  have hrn := hL.n
  have KR := Blk.new w 23 six0.cells
  have HH := h.ext ((Ext.refl w).alloc (.cells six0.cells 23))
  have E0 := (Ext.refl w).alloc (.cells six0.cells 23)
  clear h
  have w1 : IntKind.i64.wrap ((k : Int) * 8) = (k : Int) * 8 := IntWalk.i64_in _ (by omega)
  have w2 : IntKind.i64.wrap ((k : Int) + 1) = (k : Int) + 1 := IntWalk.i64_in _ (by omega)
  have w3 : IntKind.i64.wrap (((k : Int) + 1) * 8) = ((k : Int) + 1) * 8 := IntWalk.i64_in _ (by omega)
  go_enter Tryd.func69, Tryd.ntmps69
  go_upto_region 1 with (fail)
  refine at_worldE (fun W => Ext w W ∧ Rrt W gM gW gT r ∧ Blk W w.heap.size 23 six0.cells) ⟨E0, HH, KR⟩ ?_
  clear KR HH E0
  rintro W1 ⟨E1, HH, KR⟩
  have HK := Lib.hid KR
  have HR := Lib.hid HH
  have c0 := HH.c0
  have c1 := HH.c1
  obtain ⟨N, hN⟩ : ∃ N, 8 * r.n = N := ⟨_, rfl⟩
  rw [hN] at c0 c1
  clear KR HH
  go_wp2
  go_loop [6] (fun i => ∃ m : Nat, 8 * k ≤ m ∧ m ≤ 8 * k + 8 ∧ i = .int .i64 (m : Int) ∧ ∀ j, 8 * k ≤ j → j < m → s.tk j = false) (fun i => (8 * k + 8) - (intOf i).toNat)
  case atStart => exact ⟨8 * k, Nat.le_refl _, by omega, by rw [show ((8 * k : Nat) : Int) = (k : Int) * 8 by omega], fun m h0 h1 => by omega⟩
  case round =>
    obtain ⟨m, h0, h1, rfl, hb⟩ := hrel
    have HB := Lib.hid hb
    by_cases hlt : m < 8 * k + 8
    · have d1 : decide ((m : Int) < ((k : Int) + 1) * 8) = true := decide_eq_true (by omega)
      have ct := HR.out.tk (i := m) (by omega)
      rw [hL.tk] at ct
      have wm : IntKind.i64.wrap ((m : Int) + 1) = (m : Int) + 1 := IntWalk.i64_in _ (by omega)
      have hmr : (m : Int) < (N : Int) := by omega
      have hor : s.tk m = false ∨ s.tk m = true := by cases s.tk m <;> simp
      clear hb
      rcases hor with ht | ht
      · rw [ht] at ct
        go_wp2
        go_round
        case rel => exact ⟨m + 1, by omega, by omega, by go_num, fun j g0 g1 => by
          by_cases h : j = m
          · rw [h]; exact ht
          · exact HB.out j g0 (by omega)⟩
        case measure => simp [intOf]; omega
      · rw [ht] at ct
        have hmany : ¬ s.many k = 0 := fun h => by
          have := Pl.cnt_zero h (m - 8 * k) (by omega)
          rw [show 8 * k + (m - 8 * k) = m by omega, ht] at this
          cases this
        have hw := hL.wh m (by omega) ht
        rw [show m / 8 = k by omega] at hw
        have hho : s.hold k = s.own k := by unfold PS.hold; rw [if_neg hmany]
        have his : s.is k = true := by unfold PS.is; exact decide_eq_true (by omega)
        have ld := HR.out.wh (i := m) (by omega)
        have st := HK.out.store (ty := 23) (cs := (r.wh m).cells) rfl Tryd.size6 (by simp [Six.cells, Value.oneCell'])
        have K5 := HK.out.row (r.wh m).cells
        have HE := Lib.hid (E1.row (k := w.heap.size) (Nat.le_refl _) (r.wh m).cells)
        have HF := Lib.hid (And.intro (hho.trans hw.symm) his)
        clear hmany hw hho his
        go_wp2_with (first | ((apply load_by rfl _ _ rfl _ rfl); (focus (with_reducible assumption))) | ((apply store_by rfl _ _ _ rfl _ rfl); (focus (with_reducible assumption)); (focus rfl)))
        refine bodyPost_ret (results_cell2 Tryd.results69 _ _ w.heap.size 23 _ _ rfl K5 Tryd.underlying23 rfl Tryd.size6) rfl ⟨by rw [HF.out.1, HF.out.2]; rfl, HE.out⟩
    · have d1 : decide ((m : Int) < ((k : Int) + 1) * 8) = false := decide_eq_false (by omega)
      have hm : m = 8 * k + 8 := by omega
      subst hm
      have hmany : s.many k = 0 := Pl.cnt_none fun j hj => HB.out (8 * k + j) (by omega) (by omega)
      have hho : s.hold k = six0 := by unfold PS.hold; rw [if_pos hmany]
      have his : s.is k = false := by unfold PS.is; exact decide_eq_false (by omega)
      have st := HK.out.store (ty := 23) (cs := six0.cells) rfl Tryd.size6 (by simp [Six.cells, Value.oneCell'])
      have K5 := HK.out.row six0.cells
      have HE := Lib.hid (E1.row (k := w.heap.size) (Nat.le_refl _) six0.cells)
      have HF := Lib.hid (And.intro hho his)
      clear hmany hho his hb
      unfold six0 Six.cells at st K5 HE
      go_wp2_with ((apply store_by rfl _ _ _ rfl _ rfl); (focus (with_reducible assumption)); (focus rfl))
      refine bodyPost_ret (results_cell2 Tryd.results69 _ _ w.heap.size 23 _ _ rfl K5 Tryd.underlying23 rfl Tryd.size6) rfl ⟨by rw [HF.out.1, HF.out.2]; rfl, HE.out⟩
set_option maxRecDepth 100000 in
set_option maxHeartbeats 1000000 in
theorem rhas_any (gM gW gT : Nat) (s : PS) (r : RS) (p : Int) (w : World) (h : Rrt w gM gW gT r) (hL : Like s r) (hp : IsInt p) :
    Calls Tryd.prog 71 #[.pointer (some ⟨gM, 0, none⟩), .int .i64 p] w fun e w' => e = .returned (.bool (s.has p)) ∧ w' = w := by
  have hn := h.n1
  have hrn := hL.n
  obtain ⟨hp0, hp1⟩ := hp
  have c1 := h.c1
  obtain ⟨N, hN⟩ : ∃ N, 8 * r.n = N := ⟨_, rfl⟩
  rw [hN] at c1
  have wn : IntKind.i64.wrap (1024 + (N : Int)) = 1024 + (N : Int) := IntWalk.i64_in _ (by omega)
  by_cases h0 : p < 1024
  · have d1 : decide (1024 ≤ p) = false := decide_eq_false (by omega)
    have hh : s.has p = false := by unfold PS.has; rw [d1]; rfl
    rw [hh]
    clear hh h hL h0
    go_enter Tryd.func71, Tryd.ntmps71
    go_wp2
    go_returns
    exact ⟨rfl, rfl⟩
  · have d1 : decide (1024 ≤ p) = true := decide_eq_true (by omega)
    by_cases h1 : 8 * (s.n : Int) ≤ p - 1024
    · have d2 : decide (p < 1024 + (N : Int)) = false := decide_eq_false (by omega)
      have d3 : decide (p - 1024 < 8 * (s.n : Int)) = false := decide_eq_false (by omega)
      have hh : s.has p = false := by unfold PS.has; rw [d1, d3]; rfl
      rw [hh]
      clear hh h hL h0 h1 d3
      go_enter Tryd.func71, Tryd.ntmps71
      go_wp2
      go_returns
      exact ⟨rfl, rfl⟩
    · have d2 : decide (p < 1024 + (N : Int)) = true := decide_eq_true (by omega)
      have d3 : decide (p - 1024 < 8 * (s.n : Int)) = true := decide_eq_true (by omega)
      obtain ⟨i, rfl⟩ : ∃ i : Nat, p = 1024 + (i : Int) := ⟨(p - 1024).toNat, by omega⟩
      have hi : i < 8 * r.n := by omega
      have hi' : (i : Int) < (N : Int) := by omega
      have hh : s.has (1024 + (i : Int)) = s.tk i := by unfold PS.has; rw [d1, d3, show 1024 + (i : Int) - 1024 = (i : Int) by omega, Int.toNat_natCast]; rfl
      have ct := h.tk hi
      rw [hL.tk] at ct
      rw [hh]
      have w1 : 1024 + (i : Int) - 1024 = (i : Int) := by omega
      have w2 : IntKind.i64.wrap (i : Int) = (i : Int) := IntWalk.i64_in _ (by omega)
      generalize s.tk i = b at *
      obtain ⟨P, hP⟩ : ∃ P : Int, 1024 + (i : Int) = P := ⟨_, rfl⟩
      rw [hP] at w1 d1 d2 ⊢
      clear hh h hL h0 h1 d3 hP hp0 hp1
      go_enter Tryd.func71, Tryd.ntmps71
      go_wp2
      go_returns
      exact ⟨rfl, rfl⟩
theorem Like.back {s : PS} {r : RS} (hL : Like s r) {i : Nat} (h : s.has (1024 + (i : Int)) = true) : Like (s.back (1024 + (i : Int))) (r.set i false) := by
  have hb : s.back (1024 + (i : Int)) = s.set i false := by unfold PS.back; rw [if_pos h, show 1024 + (i : Int) - 1024 = (i : Int) by omega, Int.toNat_natCast]
  rw [hb]
  refine ⟨hL.n, ?_, fun j hj ht => ?_⟩
  · show Pl.upd r.tk i false = Pl.upd s.tk i false
    rw [hL.tk]
  · have ht' : Pl.upd s.tk i false j = true := ht
    refine hL.wh j hj ?_
    by_cases he : j = i
    · rw [he, Pl.upd_same] at ht'; cases ht'
    · rw [Pl.upd_other _ _ he] at ht'; exact ht'
set_option maxRecDepth 100000 in
set_option maxHeartbeats 1000000 in
theorem rgive_any (gM gW gT : Nat) (s : PS) (r : RS) (p : Int) (w : World) (h : Rrt w gM gW gT r) (hL : Like s r) (hp : IsInt p) :
    Calls Tryd.prog 53 #[.pointer (some ⟨gM, 0, none⟩), .int .i64 p] w fun e w' => e = .returned (.int .i64 (s.giveQ p)) ∧ (∃ r', Rrt w' gM gW gT r' ∧ Like (s.back p) r') ∧ Two w w' gW gT := by
  have HH := Lib.hid (rhas_any gM gW gT s r p w h hL hp)
  cases ht : s.has p
  case false =>
    have e1 : s.giveQ p = 4 := by unfold PS.giveQ; rw [ht]; rfl
    have e2 : s.back p = s := by unfold PS.back; rw [ht]; rfl
    rw [e1, e2]
    rw [ht] at HH
    have HR := Lib.hid h
    have HL := Lib.hid hL
    clear e1 e2 h hL ht hp
    go_enter Tryd.func53, Tryd.ntmps53
    go_wp2_with fail
    refine HH.out.mono ?_
    rintro e w' ⟨rfl, rfl⟩
    go_wp2_with fail
    go_returns
    exact ⟨rfl, ⟨r, HR.out, HL.out⟩, Two.refl _ _ _⟩
  case true =>
    obtain ⟨i, rfl, hi, hti⟩ := PS.has_at ht
    have e1 : s.giveQ (1024 + (i : Int)) = 0 := by unfold PS.giveQ; rw [ht]; rfl
    rw [e1]
    have HL := Lib.hid (hL.back ht)
    rw [ht] at HH
    have hi' : i < 8 * r.n := by rw [hL.n]; exact hi
    have hn := h.n1
    have c1 := h.c1
    obtain ⟨N, hN⟩ : ∃ N, 8 * r.n = N := ⟨_, rfl⟩
    rw [hN] at c1
    have ct := h.tk hi'
    have cf := h.tak.free i
    have hi2 : (i : Int) < (N : Int) := by omega
    have HR := Lib.hid h
    have w1 : 1024 + (i : Int) - 1024 = (i : Int) := by omega
    have w2 : IntKind.i64.wrap (i : Int) = (i : Int) := IntWalk.i64_in _ (by omega)
    obtain ⟨P, hP⟩ : ∃ P : Int, 1024 + (i : Int) = P := ⟨_, rfl⟩
    rw [hP] at w1 HH HL ⊢
    clear e1 h hL ht hp hP hti hi
    go_enter Tryd.func53, Tryd.ntmps53
    go_wp2_with fail
    refine HH.out.mono ?_
    rintro e w' ⟨rfl, rfl⟩
    go_wp2_with fail
    go_returns
    exact ⟨rfl, ⟨r.set i false, HR.out.put i false, HL.out⟩, Two.right (only_set (World.grownBy.refl _ _) _ _)⟩
end Go.Proofs.YtefdhlmljocnkaaDoor
