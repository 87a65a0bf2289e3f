/- The contract of ip4.encode: the bytes of a packet that may be. Conditions: as each theorem states them. -/
import Derived.Test.YtlgdmipejgggkaaDoorIp4
namespace Go.Proofs.YtlgdmipejgggkaaDoor
open Go.RowKit

namespace Pl
/-- The head of a packet of fours, with a check. -/
def first4 (t k i n c : Int) : List Int := [69, 0, (20 + n) / 256, (20 + n) % 256, i / 256, i % 256, 64, 0, t, k, c / 256, c % 256]
def head4 (s d t k i n c : Int) : List Int := first4 t k i n c ++ four s ++ four d
def sum4 (s d t k i n : Int) : Int := 65535 - fold (raw 0 (head4 s d t k i n 0))
/-- A packet's bytes. -/
def enc4 (s d t k i : Int) (b : List Int) : List Int := head4 s d t k i b.length (sum4 s d t k i b.length) ++ b
theorem head4_isB {s d t k i n c : Int} (h : Ok4 s d t k i) (hn : 0 ≤ n ∧ n ≤ 320) (hc : 0 ≤ c ∧ c ≤ 65535) : IsB (head4 s d t k i n c) := by
  obtain ⟨⟨s0, s1⟩, ⟨d0, d1⟩, ⟨t0, t1⟩, ⟨k0, k1⟩, ⟨i0, i1⟩⟩ := h
  refine (IsB.append ?_ (four_isB s0 s1)).append (four_isB d0 d1)
  unfold first4
  repeat (first | exact .nil | refine .cons (by omega) (by omega) ?_)
theorem head4_length (s d t k i n c : Int) : (head4 s d t k i n c).length = 20 := rfl
theorem head4_set (s d t k i n c : Int) : ((head4 s d t k i n 0).set 10 (c / 256)).set 11 (c % 256) = head4 s d t k i n c := rfl
theorem sum4_bd (s d t k i n : Int) : 0 ≤ sum4 s d t k i n ∧ sum4 s d t k i n ≤ 65535 := by
  have h0 := fold_lo (raw 0 (head4 s d t k i n 0))
  have h1 := fold_hi (raw 0 (head4 s d t k i n 0))
  unfold sum4
  omega
theorem enc4_isB {s d t k i : Int} {b : List Int} (h : Ok4 s d t k i) (hb : IsB b) (hn : b.length ≤ 320) : IsB (enc4 s d t k i b) :=
  (head4_isB h (by omega) (sum4_bd ..)).append hb
theorem enc4_length (s d t k i : Int) (b : List Int) : (enc4 s d t k i b).length = 20 + b.length := by
  unfold enc4
  rw [List.length_append, head4_length]
end Pl

set_option maxHeartbeats 1600000 in
theorem encode4_any (s d t k i : Int) (a : Option Addr) (n c : Nat) (b : List Int) (w : World) (h : Pl.Ok4 s d t k i) (hn : n ≤ 320) (hr : Ints .u8 w a n b) :
    Calls Tryd.prog 52 #[pk4 s d t k i (.slice a n c)] w fun e w' => ∃ v, e = .returned v ∧ Own w' w.heap.size v (Pl.enc4 s d t k i b) ∧ Below w.heap.size w w' := by
  have hok := h
  obtain ⟨⟨s0, s1⟩, ⟨d0, d1⟩, ⟨t0, t1⟩, ⟨k0, k1⟩, ⟨i0, i1⟩⟩ := h
  have hl := hr.len
  have HL := Lib.hid hl
  have e2 : IntKind.u8.wrap (20 + (n : Int)) = (20 + (n : Int)) % 256 := by rw [IntKind.wrap_u8]
  have e3 : IntKind.u8.wrap i = i % 256 := by rw [IntKind.wrap_u8]
  clear hl
  unfold pk4
  go_enter Tryd.func52, Tryd.ntmps52
  go_wp2_with fail
  clear e2 e3
  have B1 : Below w.heap.size w ((w.alloc (.cells #[.int .i64 s, .int .i64 d, .int .i64 t, .int .i64 k, .int .i64 i, .slice a n c] 54)).alloc
      (.cells #[.int .u8 69, .int .u8 0, .int .u8 ((20 + ↑n) / 256), .int .u8 ((20 + ↑n) % 256), .int .u8 (i / 256), .int .u8 (i % 256), .int .u8 64, .int .u8 0, .int .u8 t, .int .u8 k, .int .u8 0, .int .u8 0] 5)) := by go_grown
  have q0 : ((w.alloc (.cells #[.int .i64 s, .int .i64 d, .int .i64 t, .int .i64 k, .int .i64 i, .slice a n c] 54)).alloc
      (.cells #[.int .u8 69, .int .u8 0, .int .u8 ((20 + ↑n) / 256), .int .u8 ((20 + ↑n) % 256), .int .u8 (i / 256), .int .u8 (i % 256), .int .u8 64, .int .u8 0, .int .u8 t, .int .u8 k, .int .u8 0, .int .u8 0] 5)).cell? ⟨w.heap.size, 0, none⟩ = some (.int .i64 s) := by simp [go_sem, World.cell?_alloc_past]
  have q1 : ((w.alloc (.cells #[.int .i64 s, .int .i64 d, .int .i64 t, .int .i64 k, .int .i64 i, .slice a n c] 54)).alloc
      (.cells #[.int .u8 69, .int .u8 0, .int .u8 ((20 + ↑n) / 256), .int .u8 ((20 + ↑n) % 256), .int .u8 (i / 256), .int .u8 (i % 256), .int .u8 64, .int .u8 0, .int .u8 t, .int .u8 k, .int .u8 0, .int .u8 0] 5)).cell? ⟨w.heap.size, 1, none⟩ = some (.int .i64 d) := by simp [go_sem, World.cell?_alloc_past]
  have q5 : ((w.alloc (.cells #[.int .i64 s, .int .i64 d, .int .i64 t, .int .i64 k, .int .i64 i, .slice a n c] 54)).alloc
      (.cells #[.int .u8 69, .int .u8 0, .int .u8 ((20 + ↑n) / 256), .int .u8 ((20 + ↑n) % 256), .int .u8 (i / 256), .int .u8 (i % 256), .int .u8 64, .int .u8 0, .int .u8 t, .int .u8 k, .int .u8 0, .int .u8 0] 5)).cell? ⟨w.heap.size, 5, none⟩ = some (.slice a n c) := by simp [go_sem, World.cell?_alloc_past]
  have o1 := Own.built (w.alloc (.cells #[.int .i64 s, .int .i64 d, .int .i64 t, .int .i64 k, .int .i64 i, .slice a n c] 54)) (w.heap.size + 1)
      #[.int .u8 69, .int .u8 0, .int .u8 ((20 + ↑n) / 256), .int .u8 ((20 + ↑n) % 256), .int .u8 (i / 256), .int .u8 (i % 256), .int .u8 64, .int .u8 0, .int .u8 t, .int .u8 k, .int .u8 0, .int .u8 0] (Pl.first4 t k i n 0) 12 rfl rfl (by simp) (by simp [Pl.first4])
  have hsz : ((w.alloc (.cells #[.int .i64 s, .int .i64 d, .int .i64 t, .int .i64 k, .int .i64 i, .slice a n c] 54)).alloc
      (.cells #[.int .u8 69, .int .u8 0, .int .u8 ((20 + ↑n) / 256), .int .u8 ((20 + ↑n) % 256), .int .u8 (i / 256), .int .u8 (i % 256), .int .u8 64, .int .u8 0, .int .u8 t, .int .u8 k, .int .u8 0, .int .u8 0] 5)).heap.size = w.heap.size + 2 := by simp
  simp only [World.size_alloc] at o1
  generalize (w.alloc (.cells #[.int .i64 s, .int .i64 d, .int .i64 t, .int .i64 k, .int .i64 i, .slice a n c] 54)).alloc _ = W1 at *
  have hsz1 : w.heap.size + 2 ≤ W1.heap.size := by omega
  clear hsz
  go_region_held3 (fun w' => w'.cell? ⟨w.heap.size, 0, none⟩ = some (.int .i64 s) ∧ w'.cell? ⟨w.heap.size, 1, none⟩ = some (.int .i64 d))
    (first | go_keep | (refine ⟨?_, ?_⟩ <;> go_keep) | (go_split_ands; refine ⟨?_, ?_⟩ <;> go_keep) | (go_split_ands; refine ⟨?_, ?_⟩ <;> (rw [b2.cell (by simp; omega)]; first | assumption | simp [*])) | (go_split_ands; refine ⟨?_, ?_⟩ <;> (rw [b3.cell (by simp)]; assumption)) | (go_split_ands; refine ⟨?_, ?_⟩ <;> (rw [b4.cell (by have h2 := b2.size; have h3 := b3.size; simp at h2; simp; omega)]; assumption)) | (go_split_ands; refine ⟨?_, ?_⟩ <;> (rw [b5.cell (by simp)]; assumption)))
    (first
      | (go_at_call 58; (with_reducible refine (raw4_any s _ s0 s1).mono ?_); rintro e W2 ⟨v2, rfl, o2, b2⟩; obtain ⟨a2, n2, c2, rfl, l2, r2⟩ := o2.read; obtain rfl : 4 = n2 := r2.len)
      | (go_at_call 58; (with_reducible refine (raw4_any d _ d0 d1).mono ?_); rintro e W4 ⟨v4, rfl, o4, b4⟩; obtain ⟨a4, n4, c4, rfl, l4, r4⟩ := o4.read; obtain rfl : 4 = n4 := r4.len)
      | (refine step_app (by rfl) (Operand.tmp 29) (Operand.tmp 32) (by rfl) (w.heap.size + 1) _ (Pl.first4 t k i n 0) (by rfl) ?_ _ _ _ (Pl.four s) (by rfl) ?_ ?_ ?_ ?_; go_must ((exact o1.drew.below b2 o1.drew.lt')); go_must (exact r2); go_must ((simp [Pl.first4])); go_must ((have := b2.size; simp at this; omega)); intro v3 W3 o3 b3)
      | (refine step_app (by rfl) (Operand.tmp 33) (Operand.tmp 36) (by rfl) (w.heap.size + 1) _ (Pl.first4 t k i n 0 ++ Pl.four s) (by rfl) ?_ _ _ _ (Pl.four d) (by rfl) ?_ ?_ ?_ ?_; go_must (exact o3.below b4 o3.lt'); go_must (exact r4); go_must ((simp [Pl.first4, Pl.four])); go_must ((have h2 := b2.size; have h3 := b3.size; have h4 := b4.size; simp at h2; omega)); intro v5 W5 o5 b5))
  have hs2 := b2.size
  have hs3 := b3.size
  have hs4 := b4.size
  simp only [World.size_drew] at hs2
  have B5 : Below w.heap.size w W5 := (((B1.drew.trans (b2.mono (by simp; omega))).trans (b3.mono (by omega))).trans (b4.mono (by omega))).trans (b5.mono (by omega))
  have q5' : W5.cell? ⟨w.heap.size, 5, none⟩ = some (.slice a n c) := by
    rw [b5.cell (by simp), b4.cell (by simp; omega), b3.cell (by simp), b2.cell (by simp; omega)]
    simpa using q5
  have HH : Pl.first4 t k i n 0 ++ Pl.four s ++ Pl.four d = Pl.head4 s d t k i n 0 := rfl
  rw [HH] at o5
  clear HH q0 q1 q5 b2 b3 b4 r2 r4 o1 o2 o3 o4 hs2 hs3 hs4 l2 l4
  have hB := Pl.head4_isB hok (n := (n : Int)) (c := 0) (by omega) (by omega)
  have hsum := Pl.sum4_bd s d t k i n
  obtain ⟨gg, nn, cc, rfl, hnn, hcc, hg0, hg1, hcell, hfr⟩ := o5.shape (by rw [Pl.head4_length]; omega)
  obtain rfl : 20 = nn := hnn
  have hc10 := hcell 10 (by omega)
  have hc11 := hcell 11 (by omega)
  have hf10 := hfr 10
  have hf11 := hfr 11
  clear hcell hfr
  obtain ⟨pa, na, ca, hpa, _, r5⟩ := o5.read
  cases hpa
  go_wp2_with fail
  with_reducible refine (raw_any _ _ _ _ _ r5 hB (by omega)).mono ?_
  rintro e w' ⟨rfl, rfl⟩
  have hC : Pl.fold (Pl.raw 0 (Pl.head4 s d t k i n 0)) = 65535 - Pl.sum4 s d t k i n := by unfold Pl.sum4; omega
  rw [hC]
  clear hC
  have e9 : IntKind.u8.wrap (Pl.sum4 s d t k i n) = Pl.sum4 s d t k i n % 256 := by rw [IntKind.wrap_u8]
  generalize hcs : Pl.sum4 s d t k i n = C at *
  have HCS := Lib.hid hcs
  clear hcs
  obtain ⟨c0, c1⟩ := hsum
  have e10 : (65535 - (65535 - C)) = C := by omega
  have e8 : IntKind.i64.wrap (65535 - (65535 - C)) = C := by rw [e10]; exact IntWalk.i64_in _ (by omega)
  go_wp2_with (at_builtin; refine Halt.out ?_)
  refine Halt.mk ?_
  have o6 := (o5.store 10 (C / 256)).store 11 (C % 256)
  rw [Pl.head4_set] at o6
  have B6 : Below w.heap.size w ((W5.setCell ⟨gg, 10, none⟩ (.int .u8 (C / 256))).setCell ⟨gg, 11, none⟩ (.int .u8 (C % 256))) :=
    (B5.setCell (p := ⟨gg, 10, none⟩) (by show w.heap.size ≤ gg; omega) _).setCell (p := ⟨gg, 11, none⟩) (by show w.heap.size ≤ gg; omega) _
  have hsz6 : w.heap.size + 1 ≤ ((W5.setCell ⟨gg, 10, none⟩ (.int .u8 (C / 256))).setCell ⟨gg, 11, none⟩ (.int .u8 (C % 256))).heap.size := by simp; omega
  refine app rfl _ _ rfl (w.heap.size + 1) _ _ rfl o6 a n c b rfl (hr.below B6) (by rw [Pl.head4_length]; omega) hsz6 ?_
  intro v7 W7 o7 b7
  go_wp2_with fail
  go_ret
  refine ⟨v7, rfl, ?_, B6.trans (b7.mono (by omega))⟩
  unfold Pl.enc4
  rw [HL.out, HCS.out]
  exact o7.mono (by omega)
end Go.Proofs.YtlgdmipejgggkaaDoor
