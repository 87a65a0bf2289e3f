/- The contract of pick.Score. Conditions: as each theorem states them. -/
import Derived.Test.YtapmbjmcbllalaaDoorFlow
import Derived.Test.YtapmbjmcbllalaaDoorMix
namespace Go.Proofs.YtapmbjmcbllalaaDoor
open Go.RowKit
namespace Pl
/-- The score of a server for a flow. -/
def score (seed : Int) (f : Flow) (id : Int) : Int := mix (mix (mix (mix (mix seed [f.kind]) f.client.l) [f.port]) f.dst.l) [f.door, id] / 256
end Pl
theorem ints_at {n : Nat} (w : World) (cs : Array Value) (t : TypeId) (k : IntKind) (xs : List Int) (m : Nat) (h : cs.toList = xs.map (Value.int k)) (hm : xs.length = m) (hn : w.heap.size = n) : Ints k (w.alloc (.cells cs t)) (some ⟨n, 0, none⟩) m xs := by
  subst hn hm
  exact ints_new w cs t (0, 0) k xs h

set_option maxRecDepth 100000 in
set_option maxHeartbeats 1600000 in
theorem score_ok (seed : Int) (f : Flow) (id : Int) (w : World) (hs : 0 ≤ seed ∧ seed < 2147483648) (hi : 0 ≤ id ∧ id ≤ 65535) (h : f.Ok) :
    Calls Tryd.prog 16 #[.int .i64 seed, f.v, .int .i64 id] w fun e w' => e = .returned (.tuple #[.int .i64 (Pl.score seed f id), .nilIface]) ∧ Ext w w' := by
  have K0 := Blk.new w 37 f.cells
  have l0 := K0.flow
  have E0 : Ext w (w.alloc (.cells f.cells 37)) := (Ext.refl w).alloc _
  have HF := Lib.hid h
  obtain ⟨hk, hc, hd, hp, hdr⟩ := h
  have hkr : words [f.kind] = true := by simp [words]; omega
  have hpr : words [f.port] = true := by simp [words]; omega
  have hdr : words [f.door, id] = true := by simp [words]; omega
  have HKR := Lib.hid hkr
  have HPR := Lib.hid hpr
  have HDR := Lib.hid hdr
  have HC := Lib.hid hc
  have HD := Lib.hid hd
  have HS := Lib.hid hs
  obtain ⟨s0, s1⟩ := hs
  obtain ⟨i0, i1⟩ := hi
  clear hk hc hd hp hdr hkr hpr
  unfold Flow.v
  go_enter Tryd.func16, Tryd.ntmps16
  go_wp2_with ((apply load_by rfl _ _ rfl _ rfl); (focus (with_reducible assumption)))
  refine (bcheck_ok f _ HF.out).mono ?_
  rintro e w1 ⟨rfl, q1⟩
  have k1 := K0.ext q1
  have E1 := E0.trans q1
  obtain ⟨n10, n19, n118⟩ := k1.fnums
  have l1 := k1.lt
  go_wp2_with fail
  clear n10 n19 n118 l1
  refine at_world (fun W => Ext w W ∧ Blk W w.heap.size 37 f.cells ∧ Blk W w1.heap.size 86 #[.int .i64 seed] ∧ Ints .i64 W (some ⟨w1.heap.size + 1, 0, none⟩) 1 [f.kind]) ⟨(E1.alloc _).alloc _, (k1.alloc _).alloc _, (Blk.new _ _ _).alloc _, ints_at _ _ _ _ _ _ rfl rfl (by simp)⟩ ?_
  rintro W1 ⟨E1, k1, m1, n1⟩
  have M0 := Pl.mix_bd seed [f.kind] HS.out
  have l1 := k1.lt
  have lm := m1.lt
  refine (mix_any w1.heap.size _ seed _ _ _ [f.kind] W1 m1 HS.out n1 HKR.out (fun p hp => by cases hp; show w1.heap.size + 1 ≠ _; omega) (by omega)).mono ?_
  rintro e W2 ⟨rfl, m2, g2⟩
  have k2 := k1.only g2 (by have := q1.size; simp at this; omega)
  have E2 : Ext w W2 := Below.only E1 g2 E1.size (by have := q1.size; simp at this; omega)
  go_wp2_with fail
  have M1 := Pl.mix_bd _ f.client.l M0
  refine (mix_any w1.heap.size _ _ _ _ _ f.client.l W2 m2 M0 k2.ints_client HC.out (fun p hp => by cases hp; show w.heap.size ≠ _; have := q1.size; simp at this; omega) (by omega)).mono ?_
  rintro e W3 ⟨rfl, m3, g3⟩
  have k3 := k2.only g3 (by have := q1.size; simp at this; omega)
  have E3 : Ext w W3 := Below.only E2 g3 E2.size (by have := q1.size; simp at this; omega)
  obtain ⟨n30, n39, n318⟩ := k3.fnums
  have l3 := k3.lt
  go_wp2_with fail
  clear n30 n39 n318 l3
  refine at_world (fun W => Ext w W ∧ Blk W w.heap.size 37 f.cells ∧ Blk W w1.heap.size 86 #[.int .i64 (Pl.mix (Pl.mix seed [f.kind]) f.client.l)] ∧ Ints .i64 W (some ⟨W3.heap.size, 0, none⟩) 1 [f.port] ∧ w1.heap.size < W3.heap.size) ⟨E3.alloc _, k3.alloc _, m3.alloc _, ints_at _ _ _ _ _ _ rfl rfl rfl, m3.lt⟩ ?_
  rintro W4 ⟨E4, k4, m4, n4, l4⟩
  have M2 := Pl.mix_bd _ [f.port] M1
  refine (mix_any w1.heap.size _ _ _ _ _ [f.port] W4 m4 M1 n4 HPR.out (fun p hp => by cases hp; show W3.heap.size ≠ _; omega) (by omega)).mono ?_
  rintro e W5 ⟨rfl, m5, g5⟩
  have k5 := k4.only g5 (by have := q1.size; simp at this; omega)
  have E5 : Ext w W5 := Below.only E4 g5 E4.size (by have := q1.size; simp at this; omega)
  go_wp2_with fail
  have M3 := Pl.mix_bd _ f.dst.l M2
  refine (mix_any w1.heap.size _ _ _ _ _ f.dst.l W5 m5 M2 k5.ints_dst HD.out (fun p hp => by cases hp; show w.heap.size ≠ _; have := q1.size; simp at this; omega) (by omega)).mono ?_
  rintro e W6 ⟨rfl, m6, g6⟩
  have k6 := k5.only g6 (by have := q1.size; simp at this; omega)
  have E6 : Ext w W6 := Below.only E5 g6 E5.size (by have := q1.size; simp at this; omega)
  obtain ⟨n60, n69, n618⟩ := k6.fnums
  have l6 := k6.lt
  go_wp2_with fail
  clear n60 n69 n618 l6
  refine at_world (fun W => Ext w W ∧ Blk W w1.heap.size 86 #[.int .i64 (Pl.mix (Pl.mix (Pl.mix (Pl.mix seed [f.kind]) f.client.l) [f.port]) f.dst.l)] ∧ Ints .i64 W (some ⟨W6.heap.size, 0, none⟩) 2 [f.door, id] ∧ w1.heap.size < W6.heap.size) ⟨E6.alloc _, m6.alloc _, ints_at _ _ _ _ _ _ rfl rfl rfl, m6.lt⟩ ?_
  rintro W7 ⟨E7, m7, n7, l7⟩
  obtain ⟨M40, M41⟩ := Pl.mix_bd _ [f.door, id] M3
  refine (mix_any w1.heap.size _ _ _ _ _ [f.door, id] W7 m7 M3 n7 HDR.out (fun p hp => by cases hp; show W6.heap.size ≠ _; omega) (by omega)).mono ?_
  rintro e W8 ⟨rfl, m8, g8⟩
  have E8 : Ext w W8 := Below.only E7 g8 E7.size (by have := q1.size; simp at this; omega)
  have c8 : W8.cell? ⟨w1.heap.size, 0, none⟩ = some (.int .i64 (Pl.mix (Pl.mix (Pl.mix (Pl.mix (Pl.mix seed [f.kind]) f.client.l) [f.port]) f.dst.l) [f.door, id])) := m8.cells 0
  have hsc : Pl.score seed f id = Pl.mix (Pl.mix (Pl.mix (Pl.mix (Pl.mix seed [f.kind]) f.client.l) [f.port]) f.dst.l) [f.door, id] / 256 := rfl
  generalize Pl.mix (Pl.mix (Pl.mix (Pl.mix (Pl.mix seed [f.kind]) f.client.l) [f.port]) f.dst.l) [f.door, id] = z at *
  have HSC := Lib.hid hsc
  clear hsc
  go_wp2_with fail
  go_ret2
  exact ⟨by rw [HSC.out]; rfl, E8⟩

set_option maxRecDepth 100000 in
theorem score_bad (seed : Int) (f : Flow) (id : Int) (w : World) (h : ¬ ((0 ≤ seed ∧ seed < 2147483648) ∧ (0 ≤ id ∧ id ≤ 65535) ∧ f.Ok)) :
    Calls Tryd.prog 16 #[.int .i64 seed, f.v, .int .i64 id] w fun e w' => e = .returned (.tuple #[.int .i64 0, errv 1]) ∧ Ext w w' := by
  have E0 : Ext w (w.alloc (.cells f.cells 37)) := (Ext.refl w).alloc _
  have H := Lib.hid h
  clear h
  unfold Flow.v
  by_cases h1 : 0 ≤ seed
  case neg =>
    go_enter Tryd.func16, Tryd.ntmps16
    go_wp2
    go_ret2
    exact ⟨rfl, E0⟩
  by_cases h2 : seed < 2147483648
  case neg =>
    go_enter Tryd.func16, Tryd.ntmps16
    go_wp2
    go_ret2
    exact ⟨rfl, E0⟩
  by_cases h3 : 0 ≤ id
  case neg =>
    go_enter Tryd.func16, Tryd.ntmps16
    go_wp2
    go_ret2
    exact ⟨rfl, E0⟩
  by_cases h4 : id ≤ 65535
  case neg =>
    go_enter Tryd.func16, Tryd.ntmps16
    go_wp2
    go_ret2
    exact ⟨rfl, E0⟩
  have h5 : ¬ f.Ok := fun h5 => H.out ⟨⟨h1, h2⟩, ⟨h3, h4⟩, h5⟩
  have H5 := Lib.hid h5
  clear h5
  have K0 := Blk.new w 37 f.cells
  have l0 := K0.flow
  go_enter Tryd.func16, Tryd.ntmps16
  go_wp2_with ((apply load_by rfl _ _ rfl _ rfl); (focus (with_reducible assumption)))
  refine (bcheck_bad f _ H5.out).mono ?_
  rintro e w1 ⟨rfl, q1⟩
  unfold errv
  go_wp2_with fail
  go_ret2
  exact ⟨rfl, E0.trans q1⟩
end Go.Proofs.YtapmbjmcbllalaaDoor
