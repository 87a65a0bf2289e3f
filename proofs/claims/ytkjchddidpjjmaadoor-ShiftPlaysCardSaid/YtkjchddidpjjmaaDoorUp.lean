/- The contract of Up at a SYN. Conditions: as each theorem states them. -/
import Derived.Test.YtkjchddidpjjmaaDoorShift
namespace Go.Proofs.YtkjchddidpjjmaaDoor
open Go.RowKit
/-- A number of a stream. -/
def ser (n : Int) : Int := n % 4294967296

theorem only_new {a w : World} {g : Nat} (h : a.grownBy w (some g)) {p : Addr} (hp : a.heap.size ≤ p.block) (u : Value) : a.grownBy (w.setCell p u) (some g) :=
  ⟨h.os, h.tape, h.output, by simpa [World.setCell] using h.size, fun i hi hne => (Below.heap_setCell w p u i (by omega)).trans (h.block i hi hne)⟩

set_option maxRecDepth 100000 in
set_option maxHeartbeats 4000000 in
theorem up_syn (g : Nat) (ha : Option Addr) (hn hc : Nat) (start : Int) (heard : Bool) (s : Sg) (a : Option Addr) (c : Nat) (w : World) (hf : Pl.shFault s 0 = 0) (K : StB w g (.slice ha hn hc) start false heard)
    (hx : Ints .u8 w a 0 []) (hac : a = none → c = 0) (hh : hn ≤ 100) (hfl : s.flags / 2 % 2 = 1) :
    Calls Tryd.prog 23 #[.pointer (some ⟨g, 0, none⟩), s.v (.slice a 0 c)] w fun e w' =>
      SegGot w { s with seq := ser (s.seq - hn) } [] e w' ∧ StB w' g (.slice ha hn hc) (ser (s.seq + 1)) true false ∧ w.grownBy w' (some g) := by
  have KB := Blk.new w 50 (s.cells (.slice a 0 c))
  have lB := (KB.alloc (.cells #[.int .i64 0, .int .i64 0, .int .i64 0, .int .i64 0, .int .i64 0, .int .i64 0, .int .i64 0, .slice none 0 0] 50)).seg
  have KB1 := KB.alloc (.cells #[.int .i64 0, .int .i64 0, .int .i64 0, .int .i64 0, .int .i64 0, .int .i64 0, .int .i64 0, .slice none 0 0] 50)
  have HF := Lib.hid hf
  obtain ⟨-, ⟨q0, q1⟩, -, ⟨f0, f1⟩, -⟩ := shFault_ok hf
  have HX := Lib.hid hx
  have HC := Lib.hid hac
  have hgl := K.lt
  have hfz : (2 * (s.flags / 2 % 2) != 0) = true := by rw [hfl]; rfl
  clear hf hx hac hfl
  go_enter Tryd.func23, Tryd.ntmps23
  go_wp2_with ((apply load_by rfl _ _ rfl _ rfl); (focus (with_reducible assumption)))
  refine at_world (fun W => Ext w W ∧ Blk W (w.heap.size + 1) 50 #[.int .i64 0, .int .i64 0, .int .i64 0, .int .i64 0, .int .i64 0, .int .i64 0, .int .i64 0, .slice none 0 0] ∧ Blk W w.heap.size 50 (s.cells (.slice a 0 c))) ⟨((Ext.refl w).alloc _).alloc _, Blk.at _ _ _ (by simp), KB1⟩ ?_
  rintro W1 ⟨E1, KR, KS⟩
  clear KB KB1 lB
  refine (shcheck_any s a 0 c W1).mono ?_
  rintro e W2 ⟨hc, q2⟩
  unfold ShChk at hc
  subst hc
  rw [HF.out, errOf_zero]
  have E2 := E1.trans q2
  have KR2 := KR.ext q2
  have KS2 := KS.ext q2
  obtain ⟨d0, d1, d2, d3, d4, d5, d6, d7⟩ := KS2.sg
  go_wp2_with fail
  clear d0 d1 d2 d3 d4 d5 d6 d7
  refine (clone_any a 0 c [] W2 (HX.out.ext E2) HC.out (by omega)).mono ?_
  rintro e W3 ⟨v, rfl, o3, q3⟩
  have o3' := o3
  obtain ⟨va, vn, vc, rfl, hvc, hvl⟩ := o3.read
  obtain rfl : 0 = vn := hvl.len
  have E3 : Ext w W3 := E2.trans q3
  have KR3 := KR2.ext q3
  have KS3 := KS2.ext q3
  have KG3 : StB W3 g (.slice ha hn hc) start false heard := Blk.ext K E3
  obtain ⟨d0, d1, d2, d3, d4, d5, d6, d7⟩ := KS3.sg
  have df7 := KS3.free 7
  have df3 := KS3.free 3
  have b0 : W3.cell? ⟨g, 0, none⟩ = some (.slice ha hn hc) := Blk.cells KG3 0
  have b1 : W3.cell? ⟨g, 1, none⟩ = some (.int .u32 start) := Blk.cells KG3 1
  have b2 : W3.cell? ⟨g, 2, none⟩ = some (.bool false) := Blk.cells KG3 2
  have b3 : W3.cell? ⟨g, 3, none⟩ = some (.bool heard) := Blk.cells KG3 3
  have g1 : W3.frozen? ⟨g, 1, none⟩ = false := Blk.free KG3 1
  have g2 : W3.frozen? ⟨g, 2, none⟩ = false := Blk.free KG3 2
  have g3 : W3.frozen? ⟨g, 3, none⟩ = false := Blk.free KG3 3
  have hfl := flag2 f0 f1
  have ew0 : IntKind.u32.wrap (hn : Int) = hn := IntWalk.u32_in _ (by omega)
  have ew1 : IntKind.u32.wrap s.seq = s.seq := IntWalk.u32_in _ (by omega)
  have ew2 : IntKind.u32.wrap (s.seq + 1) = ser (s.seq + 1) := by rw [IntKind.wrap_u32]; rfl
  have ew3 : IntKind.u32.wrap (s.seq - hn) = ser (s.seq - hn) := by rw [IntKind.wrap_u32]; rfl
  have r0 : 0 ≤ ser (s.seq - hn) ∧ ser (s.seq - hn) < 4294967296 := by unfold ser; omega
  have r1 : 0 ≤ ser (s.seq + 1) ∧ ser (s.seq + 1) < 4294967296 := by unfold ser; omega
  have ew4 : IntKind.i64.wrap (ser (s.seq - hn)) = ser (s.seq - hn) := IntWalk.i64_in _ (by omega)
  generalize hy : ser (s.seq - hn) = y at *
  generalize hz : ser (s.seq + 1) = z at *
  have HY := Lib.hid hy
  have HZ := Lib.hid hz
  clear hy hz
  have hgl' : ¬ w.heap.size = g := by omega
  have hgl2 : ¬ g = w.heap.size := by omega
  clear hvl
  go_upto_region 13 with (fail)
  have hob : ∀ k, (Value.slice va 0 vc).ownBlock = some k → k ≠ w.heap.size + 1 ∧ k ≠ w.heap.size ∧ k ≠ g := fun k hk => by
    have h1 := o3.lt k hk
    have h2 := KR2.lt
    have h3 := K.lt
    omega
  have KS5 : Blk (((((W3.setCell ⟨w.heap.size, 7, none⟩ (.slice va 0 vc)).setCell ⟨g, 2, none⟩ (.bool true)).setCell ⟨g, 3, none⟩ (.bool false)).setCell ⟨g, 1, none⟩ (.int .u32 z)).setCell ⟨w.heap.size, 3, none⟩ (.int .i64 y)) w.heap.size 50 ({ s with seq := y }.cells (.slice va 0 vc)) :=
    ((((KS3.put 7 _).far (p := ⟨g, 2, none⟩) hgl' _).far (p := ⟨g, 3, none⟩) hgl' _).far (p := ⟨g, 1, none⟩) hgl' _).put 3 _
  have KG5 : StB (((((W3.setCell ⟨w.heap.size, 7, none⟩ (.slice va 0 vc)).setCell ⟨g, 2, none⟩ (.bool true)).setCell ⟨g, 3, none⟩ (.bool false)).setCell ⟨g, 1, none⟩ (.int .u32 z)).setCell ⟨w.heap.size, 3, none⟩ (.int .i64 y)) g (.slice ha hn hc) z true false :=
    Blk.far (((Blk.far KG3 (p := ⟨w.heap.size, 7, none⟩) hgl2 _).put 2 _).put 3 _ |>.put 1 _) (p := ⟨w.heap.size, 3, none⟩) hgl2 _
  have hR1 : ¬ w.heap.size + 1 = w.heap.size := by omega
  have hR2 : ¬ w.heap.size + 1 = g := by omega
  have KR5 := ((((KR3.far (p := ⟨w.heap.size, 7, none⟩) hR1 (.slice va 0 vc)).far (p := ⟨g, 2, none⟩) hR2 (.bool true)).far (p := ⟨g, 3, none⟩) hR2 (.bool false)).far (p := ⟨g, 1, none⟩) hR2 (.int .u32 z)).far (p := ⟨w.heap.size, 3, none⟩) hR1 (.int .i64 y)
  have o5 := ((((o3.off (p := ⟨w.heap.size, 7, none⟩) (fun k hk => (hob k hk).2.1) (.slice va 0 vc)).off (p := ⟨g, 2, none⟩) (fun k hk => (hob k hk).2.2) (.bool true)).off (p := ⟨g, 3, none⟩) (fun k hk => (hob k hk).2.2) (.bool false)).off (p := ⟨g, 1, none⟩) (fun k hk => (hob k hk).2.2) (.int .u32 z)).off (p := ⟨w.heap.size, 3, none⟩) (fun k hk => (hob k hk).2.1) (.int .i64 y)
  have G5 := only_new (only_set (only_set (only_set ((E3.set (p := ⟨w.heap.size, 7, none⟩) (Nat.le_refl _) (.slice va 0 vc)).only g) 2 (.bool true)) 3 (.bool false)) 1 (.int .u32 z)) (p := ⟨w.heap.size, 3, none⟩) (Nat.le_refl _) (.int .i64 y)
  have l5 := KS5.seg
  have t5 := sto KR5 { s with seq := y } va 0 vc
  clear hgl' hgl2 hR1 hR2
  go_wp2_with (first | ((apply load_by rfl _ _ rfl _ rfl); (focus (with_reducible assumption))) | ((apply store_by rfl _ _ _ rfl _ rfl); (focus (with_reducible assumption)); (focus rfl)))
  refine bodyPost_ret (results_cell2 Tryd.results23 _ _ (w.heap.size + 1) 50 _ _ rfl (KR5.row _) Tryd.underlying50 rfl Tryd.sizeSeg) rfl ?_
  rw [HY.out, HZ.out]
  refine ⟨⟨_, rfl, (o5.mono E2.size).row (fun k hk => (hob k hk).1) _⟩, Blk.farRow KG5 (by omega) _, only_row G5 (by omega) _⟩
end Go.Proofs.YtkjchddidpjjmaaDoor
