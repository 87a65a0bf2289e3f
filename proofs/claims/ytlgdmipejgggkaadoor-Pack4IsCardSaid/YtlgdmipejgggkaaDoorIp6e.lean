/- The contract of ip6.Encode. Conditions: as each theorem states them. -/
import Derived.Test.YtlgdmipejgggkaaDoorIp6
import Derived.Deep.RegionHeld3
import Derived.Deep.DeepCutAuto
import Derived.Deep.DeepMust
namespace Go.Proofs.YtlgdmipejgggkaaDoor
open Go.RowKit
namespace Pl
/-- A packet's bytes. -/
def head6 (p : P6) (n : Int) : List Int := [96, 0, 0, 0, n / 256, n % 256, p.kind, p.hop]
def enc6 (p : P6) (b : List Int) : List Int := head6 p b.length ++ two p.src.l ++ two p.dst.l ++ b
end Pl

theorem keepAll {a b : World} {B g : Nat} {cs : Array Value} (h : Below B a b) (hg : g < B) (x : ∀ i, a.cell? ⟨g, i, none⟩ = cs[i]?) : ∀ i, b.cell? ⟨g, i, none⟩ = cs[i]? :=
  fun i => (World.cell?_of_block (h.block g hg)).trans (x i)
/-- A world in the midst of a walk is named by what is known of it. -/
theorem at_worldD {P : Program} {c : Code} {Q : Exit → Act → World → Prop} {a : Act} {W : World} (X : World → Prop) (h : X W) (k : ∀ W', X W' → c.wp P Q a W') : c.wp P Q a W := k W h
set_option maxRecDepth 100000 in
theorem encode6_bad (p : P6) (a : Option Addr) (n c : Nat) (w : World) (h : p.fault n ≠ 0) :
    Calls Tryd.prog 19 #[p.v (.slice a n c)] w fun e w' => e = .returned (.tuple #[.slice none 0 0, erv (p.fault n)]) ∧ Ext w w' := by
  have K0 := Blk.new w 39 (p.cells (.slice a n c))
  have E0 : Ext w (w.alloc (.cells (p.cells (.slice a n c)) 39)) := (Ext.refl w).alloc _
  have l0 := K0.p6
  have hc := check6p_any p a n c (w.alloc (.cells (p.cells (.slice a n c)) 39))
  rw [erv_ne h] at hc ⊢
  generalize p.fault n = q at *
  have HC := Lib.hid hc
  clear h hc
  unfold errv at *
  go_enter Tryd.func19, Tryd.ntmps19
  go_wp2_with ((apply load_by rfl _ _ rfl _ rfl); (focus (with_reducible assumption)))
  refine HC.out.mono ?_
  rintro e W1 ⟨rfl, q1⟩
  go_wp2_with fail
  go_ret2
  exact ⟨rfl, E0.trans q1⟩

set_option maxRecDepth 100000 in
set_option maxHeartbeats 4000000 in
theorem encode6_ok (p : P6) (a : Option Addr) (n c : Nat) (b : List Int) (w : World) (h : p.fault n = 0) (hr : Ints .u8 w a n b) :
    Calls Tryd.prog 19 #[p.v (.slice a n c)] w fun e w' => ∃ v, e = .returned (.tuple #[v, .nilIface]) ∧ Own w' w.heap.size v (Pl.enc6 p b) ∧ Ext w w' := by
  have K0 := Blk.new w 39 (p.cells (.slice a n c))
  have E0 : Ext w (w.alloc (.cells (p.cells (.slice a n c)) 39)) := (Ext.refl w).alloc _
  have l0 := K0.p6
  have hc := check6p_any p a n c (w.alloc (.cells (p.cells (.slice a n c)) 39))
  rw [h, erv_zero] at hc
  obtain ⟨hg, hn⟩ := P6.fault_zero h
  obtain ⟨hs, hd, ⟨h0, h1⟩, ⟨k0, k1⟩⟩ := P6.good_all hg
  have HC := Lib.hid hc
  have HS := Lib.hid hs
  have HD := Lib.hid hd
  have HR := Lib.hid hr
  clear h hc hg hs hd hr
  go_enter Tryd.func19, Tryd.ntmps19
  go_wp2_with ((apply load_by rfl _ _ rfl _ rfl); (focus (with_reducible assumption)))
  refine HC.out.mono ?_
  rintro e W1 ⟨rfl, q1⟩
  have K1 := K0.ext q1
  have E1 := E0.trans q1
  obtain ⟨m0, m1, m2⟩ := K1.p6nums
  have e1 : IntKind.u8.wrap ((n : Int) / 256) = (n : Int) / 256 := IntWalk.u8_in _ (by omega)
  have e2 : IntKind.u8.wrap (n : Int) = (n : Int) % 256 := by rw [IntKind.wrap_u8]
  have e3 : IntKind.u8.wrap p.kind = p.kind := IntWalk.u8_in _ (by omega)
  have e4 : IntKind.u8.wrap p.hop = p.hop := IntWalk.u8_in _ (by omega)
  clear K0 l0 E0 q1
  go_upto_region 6 with (fail)
  refine at_worldD (fun W => Ext w W ∧ Blk W w.heap.size 39 (p.cells (.slice a n c)) ∧ Own W (w.heap.size + 1) (.slice (some ⟨W1.heap.size, 0, none⟩) 8 8) (Pl.head6 p n) ∧ w.heap.size + 2 ≤ W.heap.size)
    ⟨E1.alloc _, K1.alloc _, Own.built W1 (w.heap.size + 1) _ (Pl.head6 p n) 8 rfl rfl (by have := K1.lt; omega) (by simp [Pl.head6]), by have := K1.lt; simp; omega⟩ ?_
  rintro W2 ⟨E2, K2, o2, hz2⟩
  clear E1 K1 m0 m1 m2 e1 e2 e3 e4
  have fP := K2.cells
  unfold P6.cells at fP
  have hl1 : (Pl.two p.src.l).length = 16 := by rw [Pl.two_length]; rfl
  have hl2 : (Pl.two p.dst.l).length = 16 := by rw [Pl.two_length]; rfl
  have HL1 := Lib.hid hl1
  have HL2 := Lib.hid hl2
  clear hl1 hl2
  go_region_held3 (fun w' => ∀ i, w'.cell? ⟨w.heap.size, i, none⟩ = (#[.int .i64 p.src.x0, .int .i64 p.src.x1, .int .i64 p.src.x2, .int .i64 p.src.x3, .int .i64 p.src.x4, .int .i64 p.src.x5, .int .i64 p.src.x6, .int .i64 p.src.x7, .int .i64 p.dst.x0, .int .i64 p.dst.x1, .int .i64 p.dst.x2, .int .i64 p.dst.x3, .int .i64 p.dst.x4, .int .i64 p.dst.x5, .int .i64 p.dst.x6, .int .i64 p.dst.x7, .int .i64 p.hop, .int .i64 p.kind, .slice a n c] : Array Value)[i]?)
    (first | assumption | exact f3 | exact f4 | exact f5 | exact f6 | go_keep)
    (first
      | (go_at_call 44; (with_reducible refine (raw6_x p.src _ HS.out).mono ?_); rintro e W3 ⟨v3, rfl, o3, q3⟩; obtain ⟨a3, n3, c3, rfl, l3, r3⟩ := o3.read; have h3 := r3.len; have K3 := Blk.ext (Blk.drew K2) q3; have f3 := K3.cells; unfold P6.cells at f3)
      | (go_at_call 44; (with_reducible refine (raw6_x p.dst _ HD.out).mono ?_); rintro e W5 ⟨v5, rfl, o5, q5⟩; obtain ⟨a5, n5, c5, rfl, l5, r5⟩ := o5.read; have h5 := r5.len; have K5 := Blk.ext K4 q5; have f5 := K5.cells; unfold P6.cells at f5)
      | (refine step_app (by rfl) (Operand.tmp 27) (Operand.tmp 30) (by rfl) (w.heap.size + 1) _ (Pl.head6 p n) (by rfl) ?_ _ _ _ (Pl.two p.src.l) (by rfl) ?_ ?_ ?_ ?_; go_must (exact Own.ext o2.drew q3); go_must (exact r3); go_must (have := HL1.out; simp [Pl.head6]; omega); go_must (have := q3.size; simp at this; omega); intro v4 W4 o4 b4; have K4 := Blk.below K3 b4 (Nat.lt_succ_self _); have f4 := K4.cells; unfold P6.cells at f4)
      | (refine step_app (by rfl) (Operand.tmp 31) (Operand.tmp 34) (by rfl) (w.heap.size + 1) _ (Pl.head6 p n ++ Pl.two p.src.l) (by rfl) ?_ _ _ _ (Pl.two p.dst.l) (by rfl) ?_ ?_ ?_ ?_; go_must (exact Own.ext o4 q5); go_must (exact r5); go_must (have := HL1.out; have := HL2.out; simp [Pl.head6]; omega); go_must (have h1 := q3.size; have h2 := b4.size; have h3 := q5.size; simp at h1; omega); intro v6 W6 o6 b6; have K6 := Blk.below K5 b6 (Nat.lt_succ_self _); have f6 := K6.cells; unfold P6.cells at f6))
  have E3 : Ext w W3 := Ext.trans E2.drew q3
  have E4 : Ext w W4 := Below.trans E3 (Below.mono b4 (Nat.le_succ _))
  have E5 : Ext w W5 := Ext.trans E4 q5
  have E6 : Ext w W6 := Below.trans E5 (Below.mono b6 (Nat.le_succ _))
  obtain ⟨m0, m1, m2⟩ := K6.p6nums
  have hz6 := K6.lt
  clear fP f3 f4 f5 f6
  go_wp2_with (at_builtin; refine Halt.out ?_)
  refine Halt.mk ?_
  refine app rfl _ _ rfl (w.heap.size + 1) v6 _ rfl o6 a n c b rfl (HR.out.ext E6) (by have := HL1.out; have := HL2.out; simp [Pl.head6]; omega) (by omega) ?_
  intro v7 W7 o7 b7
  have E7 : Ext w W7 := Below.trans E6 (Below.mono b7 (Nat.le_succ _))
  have HE7 := Lib.hid E7
  have HO7 := Lib.hid o7
  clear E7 o7 b7 m0 m1 m2
  go_wp2_with fail
  go_ret2
  refine ⟨_, rfl, ?_, HE7.out⟩
  have hb := HR.out.len
  unfold Pl.enc6
  rw [hb]
  exact HO7.out.mono (Nat.le_succ _)
end Go.Proofs.YtlgdmipejgggkaaDoor
