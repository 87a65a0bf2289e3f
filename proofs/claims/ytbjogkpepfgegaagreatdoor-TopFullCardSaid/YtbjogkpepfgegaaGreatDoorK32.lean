/- Lemmas of this seat, bound together: SegA Opn TabC Opm Opr. Conditions: as each lemma states them. -/
import Derived.Test.YtbjogkpepfgegaaGreatDoorK04
import Derived.Test.YtbjogkpepfgegaaGreatDoorK31
import Derived.Test.YtbjogkpepfgegaaGreatDoorK29
import Derived.Test.YtbjogkpepfgegaaGreatDoorK17
import Derived.Test.YtbjogkpepfgegaaGreatDoorK30
namespace Go.Proofs.YtbjogkpepfgegaaGreatDoor
open Go.RowKit
theorem sdecode_any (k : Int) (a : Option Addr) (n c : Nat) (xs : List Int) (over : Int) (w : World) (hr : Ints .u8 w a n xs) (hb : Pl.IsB xs) (hnc : n ≤ c) (hc : a = none → c = 0) :
    Calls Tryz.prog 37 #[.int .i64 k, .slice a n c, .int .i64 over] w (DecGot k xs over w) := by
  by_cases hk : k = 6 ∨ k = 17
  case neg => exact sdecode_bad k a n c xs over w (.inl hk)
  by_cases ho : Pl.Word over
  case neg => exact sdecode_bad k a n c xs over w (.inr ho)
  rcases hk with rfl | rfl
  · by_cases h0 : 20 ≤ n ∧ n ≤ 320
    · exact sdecode_core6 a n c xs over w hr hb hnc hc ho h0.1 h0.2
    · exact sdecode_short6 a n c xs over w hr ho (by omega)
  · by_cases h0 : 8 ≤ n ∧ n ≤ 308
    · exact sdecode_core17 a n c xs over w hr hb hnc hc ho h0.1 h0.2
    · exact sdecode_short17 a n c xs over w hr ho (by omega)
/-- Bytes, when another block is written anew. -/
theorem Ints.keepRow {k : IntKind} {w : World} {a : Option Addr} {n : Nat} {xs : List Int} (h : Ints k w a n xs) (g : Nat) (cs : Array Value) (hg : 0 < n → ∀ p, a = some p → p.block ≠ g) : Ints k (w.setRow g cs) a n xs := by
  by_cases hn : 0 < n
  · obtain ⟨b, off, rfl, hb, hc⟩ := h.at hn
    exact ⟨h.1, .inr ⟨b, off, rfl, fun i hi => (World.cell?_of_block (setRow_other w g b cs (hg hn _ rfl))).trans (hc i hi)⟩⟩
  · obtain rfl : n = 0 := by omega
    obtain rfl : xs = [] := List.length_eq_zero_iff.1 h.len
    exact Ints.nil
/-- The fault, as both tell it. -/
theorem chk_any (s : Sg) (a : Option Addr) (n c : Nat) (w : World) : Calls Tryz.prog 56 #[s.v (.slice a n c)] w fun e w' => e = .returned (erv (Pl.segFault s n)) ∧ Ext w w' :=
  (scheck_any s a n c w).mono fun _ _ ⟨h, q⟩ => ⟨h, q⟩
end Go.Proofs.YtbjogkpepfgegaaGreatDoor
namespace Go.Proofs.YtbjogkpepfgegaaGreatDoor
open Go.RowKit
namespace Pl
/-- What is wrong with a body, as a segment of that kind over something. -/
def opQ (k : Int) (xs : List Int) (over : Int) : Int := if ¬ (k = 6 ∨ k = 17) then 2 else segQ k xs over
def opV (k : Int) (xs : List Int) (over : Int) : Sg := if opQ k xs over = 0 then decSeg k xs else ⟨0, 0, 0, 0, 0, 0, 0⟩
def opD (k : Int) (xs : List Int) (over : Int) : List Int := if opQ k xs over = 0 then xs.drop (segSize k) else []
theorem op_known {k over : Int} {xs : List Int} (hk : k = 6 ∨ k = 17) : opQ k xs over = segQ k xs over ∧ opV k xs over = segV k xs over ∧ opD k xs over = segD k xs over := by
  have h : opQ k xs over = segQ k xs over := by unfold opQ; rw [if_neg (fun hn => hn hk)]
  refine ⟨h, ?_, ?_⟩
  · unfold opV segV; rw [h]
  · unfold opD segD; rw [h]
end Pl
def OpGot (k : Int) (xs : List Int) (over : Int) (w : World) (e : Ending) (w' : World) : Prop :=
  ∃ a n c, e = .returned (.tuple #[(Pl.opV k xs over).v (.slice a n c), erv (Pl.opQ k xs over)]) ∧ Own w' w.heap.size (.slice a n c) (Pl.opD k xs over) ∧ Ext w w'
def ROpGot (k : Int) (xs : List Int) (over : Int) (w : World) (e : Ending) (w' : World) : Prop :=
  ∃ a n c, e = .returned (.tuple #[(Pl.opV k xs over).v (.slice a n c), .int .i64 (Pl.opQ k xs over)]) ∧ Ints .u8 w' a n (Pl.opD k xs over) ∧ Ext w w'
set_option maxRecDepth 100000 in
set_option maxHeartbeats 2000000 in
theorem read_any (k : Int) (a : Option Addr) (n c : Nat) (xs : List Int) (over : Int) (w : World) (hr : Ints .u8 w a n xs) (hb : Pl.IsB xs) (hnc : n ≤ c) (hc : a = none → c = 0) :
    Calls Tryz.prog 62 #[.int .i64 k, .slice a n c, .int .i64 over] w (OpGot k xs over w) := by
  have KR := Blk.new w 40 #[.int .i64 0, .int .i64 0, .int .i64 0, .int .i64 0, .int .i64 0, .int .i64 0, .int .i64 0, .slice none 0 0]
  have E0 : Ext w (w.alloc (.cells #[.int .i64 0, .int .i64 0, .int .i64 0, .int .i64 0, .int .i64 0, .int .i64 0, .int .i64 0, .slice none 0 0] 40)) := (Ext.refl w).alloc _
  by_cases hk : k = 6 ∨ k = 17
  case neg =>
    have k6 : (k != 6) = true := by simp; omega
    have k17 : (k != 17) = true := by simp; omega
    have HQ := Lib.hid (show Pl.opQ k xs over = 2 by unfold Pl.opQ; rw [if_pos hk])
    have s0 := sto KR ⟨0, 0, 0, 0, 0, 0, 0⟩ none 0 0
    clear hk
    go_enter Tryz.func62, Tryz.ntmps62
    go_wp2_with ((apply store_by rfl _ _ _ rfl _ rfl); (focus (with_reducible assumption)); (focus rfl))
    refine bodyPost_ret (results_cell2 Tryz.results62 _ _ w.heap.size 40 #[.int .i64 0, .int .i64 0, .int .i64 0, .int .i64 0, .int .i64 0, .int .i64 0, .int .i64 0, .slice none 0 0] _ rfl (KR.row _) Tryz.underlying40 rfl Tryz.sizeSeg) rfl ⟨none, 0, 0, ?_, ?_, E0.row (Nat.le_refl _) _⟩
    · unfold Pl.opV
      rw [HQ.out, if_neg (by decide)]
      rfl
    · unfold Pl.opD
      rw [HQ.out, if_neg (by decide)]
      exact Own.nil _ _
  obtain ⟨e1, e2, e3⟩ := Pl.op_known (over := over) (xs := xs) hk
  have HD := Lib.hid (sdecode_any k a n c xs over _ (hr.ext E0) hb hnc hc)
  unfold DecGot at HD
  unfold OpGot
  rw [e1, e2, e3]
  generalize Pl.segV k xs over = V at *
  generalize Pl.segQ k xs over = Q at *
  generalize Pl.segD k xs over = D at *
  clear e1 e2 e3
  have key : (k != 6 && k != 17) = false := by rcases hk with rfl | rfl <;> rfl
  have fin : ∀ (v : Value) (W1 : World), Own W1 (w.heap.size + 1) v D → Ext (w.alloc (.cells #[.int .i64 0, .int .i64 0, .int .i64 0, .int .i64 0, .int .i64 0, .int .i64 0, .int .i64 0, .slice none 0 0] 40)) W1 → ∃ a n c, v = .slice a n c ∧ (Instr.storeAt 40 (.pointer (some ⟨w.heap.size, 0, none⟩)) (.agg (V.cells (.slice a n c)))).run Tryz.prog W1 = .ok () (W1.setRow w.heap.size (V.cells (.slice a n c))) ∧ Blk (W1.setRow w.heap.size (V.cells (.slice a n c))) w.heap.size 40 (V.cells (.slice a n c)) ∧ Own (W1.setRow w.heap.size (V.cells (.slice a n c))) w.heap.size (.slice a n c) D ∧ Ext w (W1.setRow w.heap.size (V.cells (.slice a n c))) := fun v W1 o q => by
    obtain ⟨a1, n1, c1, rfl, _, _⟩ := o.read
    have K1 := KR.ext q
    refine ⟨a1, n1, c1, rfl, sto K1 V a1 n1 c1, K1.row _, (o.rowOff (fun j hj => by have := (o.lt j hj).1; omega) _).mono (Nat.le_succ _), (E0.trans q).row (Nat.le_refl _) _⟩
  have HFIN := Lib.hid fin
  clear fin key hr hb
  rcases hk with rfl | rfl
  all_goals
    go_enter Tryz.func62, Tryz.ntmps62
    go_wp2_with fail
    refine HD.out.mono ?_
    rintro e W1 ⟨v, rfl, o, q⟩
    obtain ⟨a1, n1, c1, rfl, st, K1, o1, E1⟩ := HFIN.out v W1 (o.mono (by simp)) q
    have HO1 := Lib.hid o1
    have HE1 := Lib.hid E1
    clear o q o1 E1
    go_wp2_with ((apply store_by rfl _ _ _ rfl _ rfl); (focus (with_reducible assumption)); (focus rfl))
    refine bodyPost_ret (results_cell2 Tryz.results62 _ _ w.heap.size 40 (V.cells (.slice a1 n1 c1)) _ rfl K1 Tryz.underlying40 rfl Tryz.sizeSeg) rfl ⟨a1, n1, c1, rfl, HO1.out, HE1.out⟩

theorem val6_word {s d : Six} {k n : Int} : Pl.Word (val6 s d k n) := ⟨Pl.fold_lo _, Pl.fold_hi _⟩
theorem val4_word {s d k n : Int} : Pl.Word (val4 s d k n) := ⟨Pl.fold_lo _, Pl.fold_hi _⟩
theorem ok6_good {p : P6} {n : Nat} (hg : p.good = true) (hn : n ≤ 320) : ok6 p.src p.dst p.kind n = true := by
  obtain ⟨h1, h2, _, ⟨h3, h4⟩⟩ := P6.good_all hg
  unfold ok6 okO w8
  rw [h1, h2]
  simp [h3, h4]
  omega
theorem over6_good (p : P6) (n : Nat) (w : World) (hg : p.good = true) (hn : n ≤ 320) : Calls Tryz.prog 24 #[p.src.v, p.dst.v, .int .i64 p.kind, .int .i64 n] w fun e w' => e = .returned (.tuple #[.int .i64 (val6 p.src p.dst p.kind n), .nilIface]) ∧ Ext w w' := by
  have := over6_any p.src p.dst p.kind n w
  rw [ok6_good hg hn] at this
  exact this
theorem ok4_good {s d t k i : Int} {n : Nat} (hg : Pl.Ok4 s d t k i) (hn : n ≤ 320) : ok4 s d k n = true := by
  obtain ⟨⟨s0, s1⟩, ⟨d0, d1⟩, _, ⟨k0, k1⟩, _⟩ := hg
  have h1 : w32 s = true := by unfold w32; simp; omega
  have h2 : w32 d = true := by unfold w32; simp; omega
  unfold ok4 okO w8
  rw [h1, h2]
  simp [k0, k1]
  omega
theorem over4_good (s d t k i : Int) (n : Nat) (w : World) (hg : Pl.Ok4 s d t k i) (hn : n ≤ 320) : Calls Tryz.prog 36 #[.int .i64 s, .int .i64 d, .int .i64 k, .int .i64 n] w fun e w' => e = .returned (.tuple #[.int .i64 (val4 s d k n), .nilIface]) ∧ Ext w w' := by
  have := over4_any s d k n w
  rw [ok4_good hg hn] at this
  exact this
end Go.Proofs.YtbjogkpepfgegaaGreatDoor
namespace Go.Proofs.YtbjogkpepfgegaaGreatDoor
open Go.RowKit
set_option maxRecDepth 100000 in
set_option maxHeartbeats 2000000 in
theorem tmake_clash (gT gP gB gF gN : Nat) (s : PS) (l : List Te) (cF cN : Nat) (f : Flow) (back far now : Int) (w : World) (h : Tab w gT gP gB gF gN s l cF cN) (hf : f.Ok) (hb : 0 ≤ back ∧ back < 4294967296) (hw : 0 ≤ far ∧ far ≤ 65535) (ht : (decide (0 ≤ now) && decide (now ≤ 1099511627776)) = true) (i : Nat) (near : Int) (hn : keyF.look f (l.map Te.inF) 0 = some (i, .int .i64 near)) :
    Calls Tryz.prog 68 #[.pointer (some ⟨gT, 0, none⟩), f.v, .int .i64 back, .int .i64 far, .int .i64 now] w fun e w' => e = .returned (.tuple #[zeroBd.v, errv 8]) ∧ Ext w w' := by
  have HB := Lib.hid (fun w' => bcheck_ok f w' hf)
  have K0 := (Blk.new w 50 f.cells).alloc (.cells #[.int .i64 0, .int .i64 0, .int .i64 0, .int .i64 0, .int .i64 0, .int .i64 0, .int .i64 0, .int .i64 0, .int .i64 0, .int .i64 0, .int .i64 0, .int .i64 0, .int .i64 0, .int .i64 0, .int .i64 0, .int .i64 0, .int .i64 0, .int .i64 0, .int .i64 0, .int .i64 0, .int .i64 0, .int .i64 0, .int .i64 0] 52)
  have K1 := Blk.at (n := w.heap.size + 1) (w.alloc (.cells f.cells 50)) 52 #[.int .i64 0, .int .i64 0, .int .i64 0, .int .i64 0, .int .i64 0, .int .i64 0, .int .i64 0, .int .i64 0, .int .i64 0, .int .i64 0, .int .i64 0, .int .i64 0, .int .i64 0, .int .i64 0, .int .i64 0, .int .i64 0, .int .i64 0, .int .i64 0, .int .i64 0, .int .i64 0, .int .i64 0, .int .i64 0, .int .i64 0] (by simp)
  have E1 := ((Ext.refl w).alloc (.cells f.cells 50)).alloc (.cells #[.int .i64 0, .int .i64 0, .int .i64 0, .int .i64 0, .int .i64 0, .int .i64 0, .int .i64 0, .int .i64 0, .int .i64 0, .int .i64 0, .int .i64 0, .int .i64 0, .int .i64 0, .int .i64 0, .int .i64 0, .int .i64 0, .int .i64 0, .int .i64 0, .int .i64 0, .int .i64 0, .int .i64 0, .int .i64 0, .int .i64 0] 52)
  have HC := Lib.hid (fun w' (E : Ext w w') => (show w'.cell? ⟨gT, 1, none⟩ = some (.map (some gF)) from (h.ptr.ext E).cells 1))
  have HM := Lib.hid (fun w' (E : Ext w w') => (show (Instr.lookup 114 (.map (some gF)) f.v true).run Tryz.prog w' = .ok (.tuple #[.int .i64 near, .bool true]) w' from by
    have := (h.flows.ext E).lookup keyF_finds 114 3 Tryz.underlying114 (.int .i64 0) (by kernel_rfl) f true
    rw [hn] at this
    exact this))
  have ld := loaFl K0
  have HX := Lib.hid (And.intro K0 (And.intro K1 E1))
  clear K0 K1 E1 h hf hn
  unfold errv
  go_enter Tryz.func68, Tryz.ntmps68
  go_wp2_with ((apply load_by rfl _ _ rfl _ rfl); (focus (with_reducible assumption)))
  refine (HB.out _).mono ?_
  rintro e W1 ⟨rfl, q1⟩
  have K0 := (HX.out).1.ext q1
  have K1 := (HX.out).2.1.ext q1
  have E1 := (HX.out).2.2.trans q1
  clear ld q1 HX
  go_wp2_with fail
  refine (is_yes back _ hb.1 hb.2).mono ?_
  rintro e W1 ⟨rfl, rfl⟩
  go_wp2_with fail
  refine (word_yes far _ hw.1 hw.2).mono ?_
  rintro e W1 ⟨rfl, rfl⟩
  go_wp2_with fail
  refine (btick_any now _).mono ?_
  rintro e W1 ⟨rfl, rfl⟩
  rw [ht]
  go_wp2_with fail
  refine wp_region_held_drew (S := (fun w' => w'.cell? ⟨gT, 1, none⟩ = some (.map (some gF)) ∧ Blk w' w.heap.size 50 f.cells ∧ (Instr.lookup 114 (.map (some gF)) f.v true).run Tryz.prog w' = .ok (.tuple #[.int .i64 near, .bool true]) w')) (by kernel_rfl) ⟨HC.out _ E1.drew, Blk.drew K0, HM.out _ E1.drew⟩ (fun hS0 => ?_)
  have E2 := E1.drew
  have K2 := Blk.drew K1
  clear E1 K1 K0
  generalize W1.drew = V at *
  (refine wpAnyH_take (i := 0) (v := ?_) rfl (by kernel_rfl) (by kernel_rfl) (by kernel_rfl) (fun _ _ _ h => h) (Or.inl ⟨by rfl, ?_⟩) (by assumption) ?_; rotate_left; focus (intro w hSw; (try dsimp only at hSw); go_simp; try with_reducible rfl); try simp only [Act.put, List.getElem_toArray, List.getElem_cons_succ, List.getElem_cons_zero, List.setIfInBounds_toArray, List.set_cons_zero, List.set_cons_succ])
  (refine wpAnyH_take (i := 1) (v := ?_) rfl (by kernel_rfl) (by kernel_rfl) (by kernel_rfl) (fun _ _ _ h => h) (Or.inl ⟨by rfl, ?_⟩) (by assumption) ?_; rotate_left; focus (intro w hSw; (try dsimp only at hSw); go_simp; try with_reducible rfl); try simp only [Act.put, List.getElem_toArray, List.getElem_cons_succ, List.getElem_cons_zero, List.setIfInBounds_toArray, List.set_cons_zero, List.set_cons_succ])
  (refine wpAnyH_take (i := 2) (v := ?_) rfl (by kernel_rfl) (by kernel_rfl) (by kernel_rfl) (fun _ _ _ h => h) (Or.inl ⟨by rfl, ?_⟩) (by assumption) ?_; rotate_left; focus (intro w hSw; (try dsimp only at hSw); go_simp; try with_reducible rfl); try simp only [Act.put, List.getElem_toArray, List.getElem_cons_succ, List.getElem_cons_zero, List.setIfInBounds_toArray, List.set_cons_zero, List.set_cons_succ])
  (refine wpAnyH_take (i := 3) (v := ?_) rfl (by kernel_rfl) (by kernel_rfl) (by kernel_rfl) (fun _ _ _ h => h) (Or.inl ⟨by rfl, ?_⟩) (by assumption) ?_; rotate_left; focus (intro w hSw; (try dsimp only at hSw); go_simp; try with_reducible rfl); try simp only [Act.put, List.getElem_toArray, List.getElem_cons_succ, List.getElem_cons_zero, List.setIfInBounds_toArray, List.set_cons_zero, List.set_cons_succ])
  refine wpAnyH_take (i := 4) rfl (by kernel_rfl) (by kernel_rfl) (by kernel_rfl) (fun _ _ _ h => h) (Or.inl ⟨by rfl, fun W hS => exec_load rfl rfl (loaFl hS.2.1)⟩) (by assumption) ?_
  (try simp only [Act.put, List.getElem_toArray, List.getElem_cons_succ, List.getElem_cons_zero, List.setIfInBounds_toArray, List.set_cons_zero, List.set_cons_succ])
  (refine wpAnyH_take (i := 5) (v := ?_) rfl (by kernel_rfl) (by kernel_rfl) (by kernel_rfl) (fun _ _ _ h => h) (Or.inl ⟨by rfl, ?_⟩) (by assumption) ?_; rotate_left; focus (intro w hSw; (try dsimp only at hSw); go_simp; try with_reducible rfl); try simp only [Act.put, List.getElem_toArray, List.getElem_cons_succ, List.getElem_cons_zero, List.setIfInBounds_toArray, List.set_cons_zero, List.set_cons_succ])
  (refine wpAnyH_take (i := 6) (v := ?_) rfl (by kernel_rfl) (by kernel_rfl) (by kernel_rfl) (fun _ _ _ h => h) (Or.inl ⟨by rfl, ?_⟩) (by assumption) ?_; rotate_left; focus (intro w hSw; (try dsimp only at hSw); go_simp; try with_reducible rfl); try simp only [Act.put, List.getElem_toArray, List.getElem_cons_succ, List.getElem_cons_zero, List.setIfInBounds_toArray, List.set_cons_zero, List.set_cons_succ])
  (refine wpAnyH_take (i := 7) (v := ?_) rfl (by kernel_rfl) (by kernel_rfl) (by kernel_rfl) (fun _ _ _ h => h) (Or.inl ⟨by rfl, ?_⟩) (by assumption) ?_; rotate_left; focus (intro w hSw; (try dsimp only at hSw); go_simp; try with_reducible rfl); try simp only [Act.put, List.getElem_toArray, List.getElem_cons_succ, List.getElem_cons_zero, List.setIfInBounds_toArray, List.set_cons_zero, List.set_cons_succ])
  (refine wpAnyH_take (i := 8) (v := ?_) rfl (by kernel_rfl) (by kernel_rfl) (by kernel_rfl) (fun _ _ _ h => h) (Or.inl ⟨by rfl, ?_⟩) (by assumption) ?_; rotate_left; focus (intro w hSw; (try dsimp only at hSw); go_simp; try with_reducible rfl); try simp only [Act.put, List.getElem_toArray, List.getElem_cons_succ, List.getElem_cons_zero, List.setIfInBounds_toArray, List.set_cons_zero, List.set_cons_succ])
  (refine wpAnyH_take (i := 9) (v := ?_) rfl (by kernel_rfl) (by kernel_rfl) (by kernel_rfl) (fun _ _ _ h => h) (Or.inl ⟨by rfl, ?_⟩) (by assumption) ?_; rotate_left; focus (intro w hSw; (try dsimp only at hSw); go_simp; try with_reducible rfl); try simp only [Act.put, List.getElem_toArray, List.getElem_cons_succ, List.getElem_cons_zero, List.setIfInBounds_toArray, List.set_cons_zero, List.set_cons_succ])
  (refine wpAnyH_take (i := 10) (v := ?_) rfl (by kernel_rfl) (by kernel_rfl) (by kernel_rfl) (fun _ _ _ h => h) (Or.inl ⟨by rfl, ?_⟩) (by assumption) ?_; rotate_left; focus (intro w hSw; (try dsimp only at hSw); go_simp; try with_reducible rfl); try simp only [Act.put, List.getElem_toArray, List.getElem_cons_succ, List.getElem_cons_zero, List.setIfInBounds_toArray, List.set_cons_zero, List.set_cons_succ])
  refine wpAnyH_done (by kernel_rfl) ?_ _
  have st : (Instr.storeAt 52 (.pointer (some ⟨w.heap.size + 1, 0, none⟩)) (.agg #[.int .i64 0, .int .i64 0, .int .i64 0, .int .i64 0, .int .i64 0, .int .i64 0, .int .i64 0, .int .i64 0, .int .i64 0, .int .i64 0, .int .i64 0, .int .i64 0, .int .i64 0, .int .i64 0, .int .i64 0, .int .i64 0, .int .i64 0, .int .i64 0, .int .i64 0, .int .i64 0, .int .i64 0, .int .i64 0, .int .i64 0])).run Tryz.prog _ = .ok () _ := stoBd K2 zeroBd
  have KF := K2.row zeroBd.cells
  have HE := Lib.hid (E2.row (k := w.heap.size + 1) (Nat.le_succ _) zeroBd.cells)
  clear K2 E2
  go_wp2_with ((apply store_by rfl _ _ _ rfl _ rfl); (focus (with_reducible assumption)); (focus rfl))
  refine bodyPost_ret (results_cell2 Tryz.results68 _ _ (w.heap.size + 1) 52 zeroBd.cells _ rfl KF Tryz.underlying52 rfl Tryz.sizeBd) rfl ⟨rfl, HE.out⟩
end Go.Proofs.YtbjogkpepfgegaaGreatDoor
namespace Go.Proofs.YtbjogkpepfgegaaGreatDoor
open Go.RowKit
theorem seg_ret {w W1 : World} {R B : Nat} (V : Sg) {D : List Int} {a : Option Addr} {n c : Nat} (KR : Blk W1 R 40 #[.int .i64 0, .int .i64 0, .int .i64 0, .int .i64 0, .int .i64 0, .int .i64 0, .int .i64 0, .slice none 0 0]) (E : Ext w W1) (hR : w.heap.size ≤ R) (hB : R < B) (o : Own W1 B (.slice a n c) D) :
    (Instr.storeAt 40 (.pointer (some ⟨R, 0, none⟩)) (.agg (V.cells (.slice a n c)))).run Tryz.prog W1 = .ok () (W1.setRow R (V.cells (.slice a n c))) ∧ Blk (W1.setRow R (V.cells (.slice a n c))) R 40 (V.cells (.slice a n c)) ∧ Own (W1.setRow R (V.cells (.slice a n c))) w.heap.size (.slice a n c) D ∧ Ext w (W1.setRow R (V.cells (.slice a n c))) :=
  ⟨sto KR V a n c, KR.row _, (o.rowOff (fun j hj => by have := (o.lt j hj).1; omega) _).mono (by omega), E.row hR _⟩
theorem seg_retI {w W1 : World} {R : Nat} (V : Sg) {D : List Int} {a : Option Addr} {n c : Nat} (KR : Blk W1 R 40 #[.int .i64 0, .int .i64 0, .int .i64 0, .int .i64 0, .int .i64 0, .int .i64 0, .int .i64 0, .slice none 0 0]) (E : Ext w W1) (hR : w.heap.size ≤ R) (o : Ints .u8 W1 a n D) (ho : 0 < n → ∀ p, a = some p → p.block ≠ R) :
    (Instr.storeAt 40 (.pointer (some ⟨R, 0, none⟩)) (.agg (V.cells (.slice a n c)))).run Tryz.prog W1 = .ok () (W1.setRow R (V.cells (.slice a n c))) ∧ Blk (W1.setRow R (V.cells (.slice a n c))) R 40 (V.cells (.slice a n c)) ∧ Ints .u8 (W1.setRow R (V.cells (.slice a n c))) a n D ∧ Ext w (W1.setRow R (V.cells (.slice a n c))) :=
  ⟨sto KR V a n c, KR.row _, Ints.keepRow o R _ ho, E.row hR _⟩

set_option maxRecDepth 100000 in
set_option maxHeartbeats 4000000 in
theorem open6_any (p : P6) (a : Option Addr) (n c : Nat) (xs : List Int) (w : World) (hg : p.good = true) (hn : n ≤ 320) (hr : Ints .u8 w a n xs) (hb : Pl.IsB xs) (hnc : n ≤ c) (hc : a = none → c = 0) :
    Calls Tryz.prog 28 #[p.v (.slice a n c)] w (OpGot p.kind xs (val6 p.src p.dst p.kind n) w) := by
  have KP := (Blk.new w 61 (p.cells (.slice a n c))).alloc (.cells #[.int .i64 0, .int .i64 0, .int .i64 0, .int .i64 0, .int .i64 0, .int .i64 0, .int .i64 0, .slice none 0 0] 40)
  have KR := Blk.at (n := w.heap.size + 1) (w.alloc (.cells (p.cells (.slice a n c)) 61)) 40 #[.int .i64 0, .int .i64 0, .int .i64 0, .int .i64 0, .int .i64 0, .int .i64 0, .int .i64 0, .slice none 0 0] (by simp)
  have E0 : Ext w _ := ((Ext.refl w).alloc (.cells (p.cells (.slice a n c)) 61)).alloc (.cells #[.int .i64 0, .int .i64 0, .int .i64 0, .int .i64 0, .int .i64 0, .int .i64 0, .int .i64 0, .slice none 0 0] 40)
  have HO := Lib.hid (fun (W : World) => over6_good p n W hg hn)
  have HRD := Lib.hid (fun (W : World) (q : Ext w W) => read_any p.kind a n c xs (val6 p.src p.dst p.kind n) W (hr.ext q) hb hnc hc)
  unfold OpGot at HRD
  unfold OpGot
  generalize val6 p.src p.dst p.kind n = O at *
  generalize Pl.opV p.kind xs O = V at *
  generalize Pl.opQ p.kind xs O = Q at *
  generalize Pl.opD p.kind xs O = D at *
  clear hr hb hg
  unfold Six.v at HO
  go_enter Tryz.func28, Tryz.ntmps28
  go_upto_region 1 with (fail)
  refine at_worldE (fun W => Ext w W ∧ Blk W w.heap.size 61 (p.cells (.slice a n c)) ∧ Blk W (w.heap.size + 1) 40 #[.int .i64 0, .int .i64 0, .int .i64 0, .int .i64 0, .int .i64 0, .int .i64 0, .int .i64 0, .slice none 0 0]) ⟨E0, KP, KR⟩ ?_
  clear E0 KP KR
  rintro W1 ⟨E1, KP, KR⟩
  have ls := KP.p6src
  have lt := KP.p6dst
  obtain ⟨c16, c17, c18⟩ := KP.p6nums
  go_wp2_with ((apply load_by rfl _ _ rfl _ rfl); (focus (with_reducible assumption)))
  refine (HO.out _).mono ?_
  rintro e W2 ⟨rfl, q2⟩
  have E2 := E1.trans q2
  have KP2 := KP.ext q2
  have KR2 := KR.ext q2
  clear ls lt c16 c17 c18 E1 KP KR q2
  obtain ⟨c16, c17, c18⟩ := KP2.p6nums
  go_wp2_with fail
  refine (HRD.out _ E2).mono ?_
  rintro e W3 ⟨a3, n3, c3, rfl, o3, q3⟩
  obtain ⟨st, K3, o4, E4⟩ := seg_ret V (KR2.ext q3) (E2.trans q3) (Nat.le_succ _) KR2.lt o3
  have HO4 := Lib.hid o4
  have HE4 := Lib.hid E4
  clear c16 c17 c18 E2 KP2 KR2 q3 o3 o4 E4
  go_wp2_with ((apply store_by rfl _ _ _ rfl _ rfl); (focus (with_reducible assumption)); (focus rfl))
  refine bodyPost_ret (results_cell2 Tryz.results28 _ _ (w.heap.size + 1) 40 (V.cells (.slice a3 n3 c3)) _ rfl K3 Tryz.underlying40 rfl Tryz.sizeSeg) rfl ⟨a3, n3, c3, rfl, HO4.out, HE4.out⟩

set_option maxRecDepth 100000 in
set_option maxHeartbeats 4000000 in
theorem open4_any (s d t k i : Int) (a : Option Addr) (n c : Nat) (xs : List Int) (w : World) (hg : Pl.Ok4 s d t k i) (hn : n ≤ 320) (hr : Ints .u8 w a n xs) (hb : Pl.IsB xs) (hnc : n ≤ c) (hc : a = none → c = 0) :
    Calls Tryz.prog 41 #[.agg (c4 s d t k i (.slice a n c))] w (OpGot k xs (val4 s d k n) w) := by
  have KP := (Blk.new w 44 (c4 s d t k i (.slice a n c))).alloc (.cells #[.int .i64 0, .int .i64 0, .int .i64 0, .int .i64 0, .int .i64 0, .int .i64 0, .int .i64 0, .slice none 0 0] 40)
  have KR := Blk.at (n := w.heap.size + 1) (w.alloc (.cells (c4 s d t k i (.slice a n c)) 44)) 40 #[.int .i64 0, .int .i64 0, .int .i64 0, .int .i64 0, .int .i64 0, .int .i64 0, .int .i64 0, .slice none 0 0] (by simp)
  have E0 : Ext w _ := ((Ext.refl w).alloc (.cells (c4 s d t k i (.slice a n c)) 44)).alloc (.cells #[.int .i64 0, .int .i64 0, .int .i64 0, .int .i64 0, .int .i64 0, .int .i64 0, .int .i64 0, .slice none 0 0] 40)
  have HO := Lib.hid (fun (W : World) => over4_good s d t k i n W hg hn)
  have HRD := Lib.hid (fun (W : World) (q : Ext w W) => read_any k a n c xs (val4 s d k n) W (hr.ext q) hb hnc hc)
  unfold OpGot at HRD
  unfold OpGot
  generalize val4 s d k n = O at *
  generalize Pl.opV k xs O = V at *
  generalize Pl.opQ k xs O = Q at *
  generalize Pl.opD k xs O = D at *
  clear hr hb hg
  go_enter Tryz.func41, Tryz.ntmps41
  go_upto_region 1 with (fail)
  refine at_worldE (fun W => Ext w W ∧ Blk W w.heap.size 44 (c4 s d t k i (.slice a n c)) ∧ Blk W (w.heap.size + 1) 40 #[.int .i64 0, .int .i64 0, .int .i64 0, .int .i64 0, .int .i64 0, .int .i64 0, .int .i64 0, .slice none 0 0]) ⟨E0, KP, KR⟩ ?_
  clear E0 KP KR
  rintro W1 ⟨E1, KP, KR⟩
  have g0 : W1.cell? ⟨w.heap.size, 0, none⟩ = some (.int .i64 s) := KP.cells 0
  have g1 : W1.cell? ⟨w.heap.size, 1, none⟩ = some (.int .i64 d) := KP.cells 1
  have g3 : W1.cell? ⟨w.heap.size, 3, none⟩ = some (.int .i64 k) := KP.cells 3
  have g5 : W1.cell? ⟨w.heap.size, 5, none⟩ = some (.slice a n c) := KP.cells 5
  go_wp2_with fail
  refine (HO.out _).mono ?_
  rintro e W2 ⟨rfl, q2⟩
  have E2 := E1.trans q2
  have KP2 := KP.ext q2
  have KR2 := KR.ext q2
  clear g0 g1 g3 g5 E1 KP KR q2
  have g3 : W2.cell? ⟨w.heap.size, 3, none⟩ = some (.int .i64 k) := KP2.cells 3
  have g5 : W2.cell? ⟨w.heap.size, 5, none⟩ = some (.slice a n c) := KP2.cells 5
  go_wp2_with fail
  refine (HRD.out _ E2).mono ?_
  rintro e W3 ⟨a3, n3, c3, rfl, o3, q3⟩
  obtain ⟨st, K3, o4, E4⟩ := seg_ret V (KR2.ext q3) (E2.trans q3) (Nat.le_succ _) KR2.lt o3
  have HO4 := Lib.hid o4
  have HE4 := Lib.hid E4
  clear g3 g5 E2 KP2 KR2 q3 o3 o4 E4
  go_wp2_with ((apply store_by rfl _ _ _ rfl _ rfl); (focus (with_reducible assumption)); (focus rfl))
  refine bodyPost_ret (results_cell2 Tryz.results41 _ _ (w.heap.size + 1) 40 (V.cells (.slice a3 n3 c3)) _ rfl K3 Tryz.underlying40 rfl Tryz.sizeSeg) rfl ⟨a3, n3, c3, rfl, HO4.out, HE4.out⟩
end Go.Proofs.YtbjogkpepfgegaaGreatDoor
namespace Go.Proofs.YtbjogkpepfgegaaGreatDoor
open Go.RowKit
/-- Bytes lie in no block that has no byte. -/
theorem Ints.off {w : World} {a : Option Addr} {n : Nat} {xs : List Int} {R : Nat} {t : TypeId} {cs : Array Value} (h : Ints .u8 w a n xs) (hR : Blk w R t cs) (hcs : ∀ v ∈ cs.toList, ∀ x, v ≠ .int .u8 x) (hn : 0 < n) : ∀ p, a = some p → p.block ≠ R := by
  intro p hp hb
  obtain ⟨b, off, rfl, _, hc⟩ := h.at hn
  cases hp
  have hb' : b = R := hb
  subst hb'
  have h0 := hc 0 hn
  rw [hR.cells] at h0
  have hm : (.int .u8 (xs.getD 0 0) : Value) ∈ cs.toList := by
    rw [← Array.getElem?_toList] at h0
    exact List.mem_of_getElem? h0
  exact hcs _ hm _ rfl
theorem z8_off : ∀ v ∈ (#[.int .i64 0, .int .i64 0, .int .i64 0, .int .i64 0, .int .i64 0, .int .i64 0, .int .i64 0, .slice none 0 0] : Array Value).toList, ∀ x, v ≠ .int .u8 x := by
  intro v hv x
  simp only [List.mem_cons, List.not_mem_nil, or_false] at hv
  rcases hv with rfl | rfl | rfl | rfl | rfl | rfl | rfl | rfl <;> intro h <;> cases h

end Go.Proofs.YtbjogkpepfgegaaGreatDoor
