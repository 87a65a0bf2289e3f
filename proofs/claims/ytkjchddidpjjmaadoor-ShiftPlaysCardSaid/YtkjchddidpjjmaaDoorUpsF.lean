/- The contract of Up at any stream: the faults. Conditions: as each theorem states them. -/
import Derived.Test.YtkjchddidpjjmaaDoorShP
namespace Go.Proofs.YtkjchddidpjjmaaDoor
open Go.RowKit

set_option maxRecDepth 100000 in
set_option maxHeartbeats 2000000 in
theorem up_fault (g : Nat) (s : Sg) (a : Option Addr) (n c : Nat) (w : World) (hf : Pl.shFault s n ≠ 0) :
    Calls Tryd.prog 23 #[.pointer (some ⟨g, 0, none⟩), s.v (.slice a n c)] w fun e w' => SegErr (Pl.shFault s n) e ∧ Ext w w' := by
  have KB := Blk.new w 50 (s.cells (.slice a n c))
  have lB := (KB.alloc (.cells #[.int .i64 0, .int .i64 0, .int .i64 0, .int .i64 0, .int .i64 0, .int .i64 0, .int .i64 0, .slice none 0 0] 50)).seg
  have HF := Lib.hid hf
  clear hf
  go_enter Tryd.func23, Tryd.ntmps23
  go_wp2_with ((apply load_by rfl _ _ rfl _ rfl); (focus (with_reducible assumption)))
  refine at_world (fun W => Ext w W ∧ Blk W (w.heap.size + 1) 50 #[.int .i64 0, .int .i64 0, .int .i64 0, .int .i64 0, .int .i64 0, .int .i64 0, .int .i64 0, .slice none 0 0]) ⟨((Ext.refl w).alloc _).alloc _, Blk.at _ _ _ (by simp)⟩ ?_
  rintro W1 ⟨E1, KR⟩
  clear KB lB
  refine (shcheck_any s a n c W1).mono ?_
  rintro e W2 ⟨hc, q2⟩
  unfold ShChk at hc
  subst hc
  rw [errOf_ne HF.out]
  generalize hq : Pl.shFault s n = q
  have HQ := Lib.hid hq
  clear hq
  have E2 := E1.trans q2
  have KR2 := KR.ext q2
  have s0 := sto0 KR2
  unfold errv
  go_wp2_with ((apply store_by rfl _ _ _ rfl _ rfl); (focus (with_reducible assumption)); (focus rfl))
  refine bodyPost_ret (results_cell2 Tryd.results23 _ _ (w.heap.size + 1) 50 #[.int .i64 0, .int .i64 0, .int .i64 0, .int .i64 0, .int .i64 0, .int .i64 0, .int .i64 0, .slice none 0 0] _ rfl (KR2.row _) Tryd.underlying50 rfl Tryd.sizeSeg) rfl ⟨by rw [HQ.out]; rfl, E2.row (by omega) _⟩

/-- A segment of a SYN with bytes, or of a stream that has not begun. -/
def upBad (s : Sg) (n : Nat) (begun : Bool) : Int := if s.flags / 2 % 2 = 1 then (if n = 0 then 0 else 2) else if begun = false then 9 else 0
set_option maxRecDepth 100000 in
set_option maxHeartbeats 4000000 in
theorem up_bad (g : Nat) (ha : Option Addr) (hn hc : Nat) (start : Int) (begun heard : Bool) (s : Sg) (a : Option Addr) (n c : Nat) (xs : List Int) (w : World) (hf : Pl.shFault s n = 0) (K : StB w g (.slice ha hn hc) start begun heard)
    (hx : Ints .u8 w a n xs) (hac : a = none → c = 0) (hh : hn ≤ 100) (hb : upBad s n begun ≠ 0) :
    Calls Tryd.prog 23 #[.pointer (some ⟨g, 0, none⟩), s.v (.slice a n c)] w fun e w' => SegErr (upBad s n begun) e ∧ Ext w w' := by
  have KB := Blk.new w 50 (s.cells (.slice a n c))
  have lB := (KB.alloc (.cells #[.int .i64 0, .int .i64 0, .int .i64 0, .int .i64 0, .int .i64 0, .int .i64 0, .int .i64 0, .slice none 0 0] 50)).seg
  have KB1 := KB.alloc (.cells #[.int .i64 0, .int .i64 0, .int .i64 0, .int .i64 0, .int .i64 0, .int .i64 0, .int .i64 0, .slice none 0 0] 50)
  have HF := Lib.hid hf
  obtain ⟨-, ⟨q0, q1⟩, -, ⟨f0, f1⟩, hn3⟩ := shFault_ok hf
  have HX := Lib.hid hx
  have HC := Lib.hid hac
  have hgl := K.lt
  clear hf hx hac
  go_enter Tryd.func23, Tryd.ntmps23
  go_wp2_with ((apply load_by rfl _ _ rfl _ rfl); (focus (with_reducible assumption)))
  refine at_world (fun W => Ext w W ∧ Blk W (w.heap.size + 1) 50 #[.int .i64 0, .int .i64 0, .int .i64 0, .int .i64 0, .int .i64 0, .int .i64 0, .int .i64 0, .slice none 0 0] ∧ Blk W w.heap.size 50 (s.cells (.slice a n c))) ⟨((Ext.refl w).alloc _).alloc _, Blk.at _ _ _ (by simp), KB1⟩ ?_
  rintro W1 ⟨E1, KR, KS⟩
  clear KB KB1 lB
  refine (shcheck_any s a n c W1).mono ?_
  rintro e W2 ⟨hc, q2⟩
  unfold ShChk at hc
  subst hc
  rw [HF.out, errOf_zero]
  have E2 := E1.trans q2
  have KR2 := KR.ext q2
  have KS2 := KS.ext q2
  obtain ⟨d0, d1, d2, d3, d4, d5, d6, d7⟩ := KS2.sg
  go_wp2_with fail
  clear d0 d1 d2 d3 d4 d5 d6 d7
  refine (clone_any a n c xs W2 (HX.out.ext E2) HC.out (by omega)).mono ?_
  rintro e W3 ⟨v, rfl, o3, q3⟩
  obtain ⟨va, vn, vc, rfl, hvc, hvl⟩ := o3.read
  obtain rfl : n = vn := HX.out.len.symm.trans hvl.len
  have E3 : Ext w W3 := E2.trans q3
  have KR3 := KR2.ext q3
  have KS3 := KS2.ext q3
  have KG3 : StB W3 g (.slice ha hn hc) start begun heard := Blk.ext K E3
  have df7 := KS3.free 7
  have dc7 : W3.cell? ⟨w.heap.size, 7, none⟩ = some (.slice a n c) := KS3.cells 7
  have hgl' : ¬ w.heap.size = g := by omega
  have hgl2 : ¬ g = w.heap.size := by omega
  have hR1 : ¬ w.heap.size + 1 = w.heap.size := by omega
  have KS4 : Blk (W3.setCell ⟨w.heap.size, 7, none⟩ (.slice va n vc)) w.heap.size 50 (s.cells (.slice va n vc)) := KS3.put 7 _
  have KG4 : StB (W3.setCell ⟨w.heap.size, 7, none⟩ (.slice va n vc)) g (.slice ha hn hc) start begun heard := Blk.far KG3 (p := ⟨w.heap.size, 7, none⟩) hgl2 _
  have KR4 := KR3.far (p := ⟨w.heap.size, 7, none⟩) hR1 (.slice va n vc)
  have E4 := E3.set (p := ⟨w.heap.size, 7, none⟩) (Nat.le_refl _) (.slice va n vc)
  clear hvl KG3 KR3 o3 KS KR KS2 KR2 q2 E1
  go_upto_region 5 with (fail)
  refine at_worldC (fun W => Ext w W ∧ Blk W (w.heap.size + 1) 50 #[.int .i64 0, .int .i64 0, .int .i64 0, .int .i64 0, .int .i64 0, .int .i64 0, .int .i64 0, .slice none 0 0] ∧ Blk W w.heap.size 50 (s.cells (.slice va n vc)) ∧ StB W g (.slice ha hn hc) start begun heard) ⟨E4, KR4, KS4, KG4⟩ ?_
  rintro W5 ⟨E5, KR5, KS5, KG5⟩
  clear E4 KR4 KS4 KG4 q3 E3 E2 df7 dc7 KS3
  obtain ⟨d0, d1, d2, d3, d4, d5, d6, d7⟩ := KS5.sg
  have b0 : W5.cell? ⟨g, 0, none⟩ = some (.slice ha hn hc) := Blk.cells KG5 0
  have b2 : W5.cell? ⟨g, 2, none⟩ = some (.bool begun) := Blk.cells KG5 2
  have ew0 : IntKind.u32.wrap (hn : Int) = hn := IntWalk.u32_in _ (by omega)
  have ew1 : IntKind.u32.wrap s.seq = s.seq := IntWalk.u32_in _ (by omega)
  have hfl := flag2 f0 f1
  have s0 := sto0 KR5
  by_cases hS : s.flags / 2 % 2 = 1
  · have hn0 : ¬ n = 0 := fun h => hb (by unfold upBad; rw [if_pos hS, if_pos h])
    have HQ := Lib.hid (show upBad s n begun = 2 by unfold upBad; rw [if_pos hS, if_neg hn0])
    have hfz : (2 * (s.flags / 2 % 2) != 0) = true := by rw [hS]; rfl
    have hnp : (0 : Int) < (n : Int) := by omega
    clear hb hS hn0
    go_wp2_with ((apply store_by rfl _ _ _ rfl _ rfl); (focus (with_reducible assumption)); (focus rfl))
    refine bodyPost_ret (results_cell2 Tryd.results23 _ _ (w.heap.size + 1) 50 #[.int .i64 0, .int .i64 0, .int .i64 0, .int .i64 0, .int .i64 0, .int .i64 0, .int .i64 0, .slice none 0 0] _ rfl (KR5.row _) Tryd.underlying50 rfl Tryd.sizeSeg) rfl ⟨by rw [HQ.out]; rfl, E5.row (by omega) _⟩
  · have hb0 : begun = false := by
      cases begun
      · rfl
      · exact absurd (by unfold upBad; rw [if_neg hS, if_neg (by decide)]) hb
    subst hb0
    have HQ := Lib.hid (show upBad s n false = 9 by unfold upBad; rw [if_neg hS, if_pos rfl])
    have hfz : (2 * (s.flags / 2 % 2) != 0) = false := by rw [show s.flags / 2 % 2 = 0 by omega]; rfl
    clear hb hS
    go_wp2_with ((apply store_by rfl _ _ _ rfl _ rfl); (focus (with_reducible assumption)); (focus rfl))
    refine bodyPost_ret (results_cell2 Tryd.results23 _ _ (w.heap.size + 1) 50 #[.int .i64 0, .int .i64 0, .int .i64 0, .int .i64 0, .int .i64 0, .int .i64 0, .int .i64 0, .slice none 0 0] _ rfl (KR5.row _) Tryd.underlying50 rfl Tryd.sizeSeg) rfl ⟨by rw [HQ.out]; rfl, E5.row (by omega) _⟩
end Go.Proofs.YtkjchddidpjjmaaDoor
