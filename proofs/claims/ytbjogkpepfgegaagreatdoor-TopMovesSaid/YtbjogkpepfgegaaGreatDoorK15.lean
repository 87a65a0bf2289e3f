/- The contracts of ip4.Encode, ip4.four and ip4.Decode. Conditions: as each theorem states them. -/
import Derived.Test.YtbjogkpepfgegaaGreatDoorK06
import Derived.Test.YtbjogkpepfgegaaGreatDoorK05
import Derived.Test.YtbjogkpepfgegaaGreatDoorK02
import Derived.Deep.RegionLaw
import Derived.Deep.DeepCutAuto
namespace Go.Proofs.YtbjogkpepfgegaaGreatDoor
open Go.RowKit

theorem encode4_ok (s d t k i : Int) (a : Option Addr) (n c : Nat) (b : List Int) (w : World) (h : Pl.Ok4 s d t k i) (hn : n ≤ 320) (hr : Ints .u8 w a n b) :
    Calls Tryz.prog 34 #[pk4 s d t k i (.slice a n c)] w fun e w' => ∃ v, e = .returned (.tuple #[v, .nilIface]) ∧ Own w' w.heap.size v (Pl.enc4 s d t k i b) ∧ Below w.heap.size w w' := by
  unfold pk4
  go_enter Tryz.func34, Tryz.ntmps34
  go_wp2_with fail
  have B1 : Below w.heap.size w (w.alloc (.cells #[.int .i64 s, .int .i64 d, .int .i64 t, .int .i64 k, .int .i64 i, .slice a n c] 44)) := by go_grown
  have q : ∀ j u, (#[Value.int .i64 s, .int .i64 d, .int .i64 t, .int .i64 k, .int .i64 i, .slice a n c] : Array Value)[j]? = some u → (w.alloc (.cells #[.int .i64 s, .int .i64 d, .int .i64 t, .int .i64 k, .int .i64 i, .slice a n c] 44)).cell? ⟨w.heap.size, j, none⟩ = some u := fun j u hu => by
    rw [World.cell?_alloc_mark]; exact hu
  have q0 := q 0 _ rfl
  have q1 := q 1 _ rfl
  have q2 := q 2 _ rfl
  have q3 := q 3 _ rfl
  have q4 := q 4 _ rfl
  have q5 := q 5 _ rfl
  have hsz : w.heap.size < (w.alloc (.cells #[.int .i64 s, .int .i64 d, .int .i64 t, .int .i64 k, .int .i64 i, .slice a n c] 44)).heap.size := by simp
  clear q
  generalize w.alloc (.cells #[.int .i64 s, .int .i64 d, .int .i64 t, .int .i64 k, .int .i64 i, .slice a n c] 44) = W1 at *
  refine (check4_ok s d t k i a n c W1 h hn).mono ?_
  rintro e W2 ⟨rfl, b2⟩
  have B2 := B1.trans (b2.mono B1.size)
  have r0 := q0.symm.trans (b2.cell (p := ⟨w.heap.size, 0, none⟩) hsz).symm
  have r1 := q1.symm.trans (b2.cell (p := ⟨w.heap.size, 1, none⟩) hsz).symm
  have r2 := q2.symm.trans (b2.cell (p := ⟨w.heap.size, 2, none⟩) hsz).symm
  have r3 := q3.symm.trans (b2.cell (p := ⟨w.heap.size, 3, none⟩) hsz).symm
  have r4 := q4.symm.trans (b2.cell (p := ⟨w.heap.size, 4, none⟩) hsz).symm
  have r5 := q5.symm.trans (b2.cell (p := ⟨w.heap.size, 5, none⟩) hsz).symm
  clear q0 q1 q2 q3 q4 q5
  replace r0 := r0.symm
  replace r1 := r1.symm
  replace r2 := r2.symm
  replace r3 := r3.symm
  replace r4 := r4.symm
  replace r5 := r5.symm
  go_wp2_with fail
  refine (encode4_any s d t k i a n c b W2 h hn (hr.below B2)).mono ?_
  rintro e W3 ⟨v, rfl, o3, b3⟩
  go_wp2_with fail
  go_ret2
  exact ⟨v, rfl, o3.mono B2.size, B2.trans (b3.mono B2.size)⟩

set_option maxHeartbeats 800000 in
theorem four_any (g o n c : Nat) (x0 x1 x2 x3 : Int) (w : World) (hn : 4 ≤ n) (h0 : w.cell? ⟨g, o, none⟩ = some (.int .u8 x0)) (h1 : w.cell? ⟨g, o + 1, none⟩ = some (.int .u8 x1))
    (h2 : w.cell? ⟨g, o + 2, none⟩ = some (.int .u8 x2)) (h3 : w.cell? ⟨g, o + 3, none⟩ = some (.int .u8 x3)) (b0 : 0 ≤ x0 ∧ x0 ≤ 255) (b1 : 0 ≤ x1 ∧ x1 ≤ 255) (b2 : 0 ≤ x2 ∧ x2 ≤ 255) (b3 : 0 ≤ x3 ∧ x3 ≤ 255) :
    Calls Tryz.prog 76 #[.slice (some ⟨g, o, none⟩) n c] w fun e w' => e = .returned (.int .i64 (x0 * 16777216 + x1 * 65536 + x2 * 256 + x3)) ∧ ∃ q, w' = w.drewN q := by
  obtain ⟨b00, b01⟩ := b0
  obtain ⟨b10, b11⟩ := b1
  obtain ⟨b20, b21⟩ := b2
  obtain ⟨b30, b31⟩ := b3
  have hn0 : (0 : Int) < (n : Int) := by omega
  have hn1 : (1 : Int) < (n : Int) := by omega
  have hn2 : (2 : Int) < (n : Int) := by omega
  have hn3 : (3 : Int) < (n : Int) := by omega
  go_enter Tryz.func76, Tryz.ntmps76
  go_wp2_with fail
  go_quiet (fail)
  go_wp2
  go_ret
  refine ⟨ret_int ?_, nq, rfl⟩
  rw [or24 (x := x0 * 16777216) (y := x1 * 65536) (by omega) (by omega) (by omega) (by omega) (by omega), or16 (x := x0 * 16777216 + x1 * 65536) (y := x2 * 256) (by omega) (by omega) (by omega) (by omega) (by omega),
    or8 (x := x0 * 16777216 + x1 * 65536 + x2 * 256) (by omega) (by omega) (by omega) (by omega) (by omega)]

namespace Pl
/-- A number of two bytes, of four. -/
def at4 (l : List Int) (i : Nat) : Int := l.getD i 0 * 16777216 + l.getD (i + 1) 0 * 65536 + l.getD (i + 2) 0 * 256 + l.getD (i + 3) 0
theorem at2_bd {l : List Int} (h : IsB l) (i : Nat) : 0 ≤ at2 l i ∧ at2 l i ≤ 65535 := by
  have h0 := h.getD i
  have h1 := h.getD (i + 1)
  unfold at2
  omega
theorem at4_bd {l : List Int} (h : IsB l) (i : Nat) : 0 ≤ at4 l i ∧ at4 l i < 4294967296 := by
  have h0 := h.getD i
  have h1 := h.getD (i + 1)
  have h2 := h.getD (i + 2)
  have h3 := h.getD (i + 3)
  unfold at4
  omega
/-- What bytes may be, as a packet: written again. -/
def want4 (l : List Int) : List Int := enc4 (at4 l 12) (at4 l 16) (l.getD 8 0) (l.getD 9 0) (at2 l 4) (l.drop 20)
theorem ok4_of {l : List Int} (h : IsB l) : Ok4 (at4 l 12) (at4 l 16) (l.getD 8 0) (l.getD 9 0) (at2 l 4) := ⟨at4_bd h 12, at4_bd h 16, h.getD 8, h.getD 9, at2_bd h 4⟩
end Pl

namespace Pl
/-- Bytes with two of others at the place of the check. -/
def patch4 (l m : List Int) : List Int := l.take 10 ++ ((m.drop 10).take 2 ++ l.drop 12)
end Pl
/-- What Decode gives of bytes that are not too short or long, whose numbers are S D T K I. -/
def Dec4 (xs : List Int) (S D T K I : Int) (w : World) (e : Ending) (w' : World) : Prop :=
  (Pl.enc4 S D T K I (xs.drop 20) = xs → ∃ v, e = .returned (.tuple #[pk4 S D T K I v, .nilIface]) ∧ Own w' w.heap.size v (xs.drop 20)) ∧
  (Pl.enc4 S D T K I (xs.drop 20) ≠ xs → Pl.patch4 (Pl.enc4 S D T K I (xs.drop 20)) xs = xs → e = .returned (.tuple #[pk4 0 0 0 0 0 (.slice none 0 0), errv 6])) ∧
  (Pl.enc4 S D T K I (xs.drop 20) ≠ xs → Pl.patch4 (Pl.enc4 S D T K I (xs.drop 20)) xs ≠ xs → e = .returned (.tuple #[pk4 0 0 0 0 0 (.slice none 0 0), errv 5])) ∧
  Below w.heap.size w w'

theorem decode4_short (a : Option Addr) (n c : Nat) (w : World) (h : n < 20 ∨ 340 < n) :
    Calls Tryz.prog 35 #[.slice a n c] w fun e w' => e = .returned (.tuple #[pk4 0 0 0 0 0 (.slice none 0 0), errv 5]) ∧ Below w.heap.size w w' := by
  rcases h with h | h
  · go_enter Tryz.func35, Tryz.ntmps35
    go_wp2
    go_returns
    exact ⟨rfl, by go_grown⟩
  · have h' : ¬ n < 20 := by omega
    go_enter Tryz.func35, Tryz.ntmps35
    go_wp2
    go_returns
    exact ⟨rfl, by go_grown⟩

set_option maxHeartbeats 1600000 in
theorem decode4_core (b off n c : Nat) (xs : List Int) (w : World) (S D T K X4 X5 : Int) (hr : Ints .u8 w (some ⟨b, off, none⟩) n xs) (hbl : b < w.heap.size) (hnc : n ≤ c) (h0 : 20 ≤ n) (h1 : n ≤ 340)
    (hok : Pl.Ok4 S D T K (X4 * 256 + X5)) (hS : Pl.at4 xs 12 = S) (hD : Pl.at4 xs 16 = D) (hT : xs.getD 8 0 = T) (hK : xs.getD 9 0 = K) (hX4 : xs.getD 4 0 = X4) (hX5 : xs.getD 5 0 = X5) (hb : Pl.IsB xs) :
    Calls Tryz.prog 35 #[.slice (some ⟨b, off, none⟩) n c] w (Dec4 xs S D T K (X4 * 256 + X5) w) := by
  have HOK := Lib.hid hok
  obtain ⟨⟨s0, s1⟩, ⟨d0, d1⟩, ⟨t0, t1⟩, ⟨k0, k1⟩, ⟨j0, j1⟩⟩ := hok
  have hc := (hr.at (by omega))
  obtain ⟨b', off', hbo, _, hc⟩ := hc
  simp only [Option.some.injEq, Addr.mk.injEq, and_true] at hbo
  obtain ⟨rfl, rfl⟩ := hbo
  have p0 : (12 : Int) ≤ (n : Int) := by omega
  have p1 : (16 : Int) ≤ (n : Int) := by omega
  have x4 := hb.getD 4
  have x5 := hb.getD 5
  rw [hX4] at x4
  rw [hX5] at x5
  obtain ⟨x40, x41⟩ := x4
  obtain ⟨x50, x51⟩ := x5
  have eor : bits BinOp.or IntKind.i64 (X4 * 256) X5 = X4 * 256 + X5 := or8 (by omega) (by omega) (by omega) (by omega) (by omega)
  have ewT : IntKind.i64.wrap T = T := IntWalk.i64_in _ (by omega)
  have ewK : IntKind.i64.wrap K = K := IntWalk.i64_in _ (by omega)
  have ew4 : IntKind.i64.wrap X4 = X4 := IntWalk.i64_in _ (by omega)
  have ew5 : IntKind.i64.wrap X5 = X5 := IntWalk.i64_in _ (by omega)
  have ew45 : IntKind.i64.wrap (X4 * 256) = X4 * 256 := IntWalk.i64_in _ (by omega)
  have HR := Lib.hid hr
  have HS := Lib.hid hS
  have HD := Lib.hid hD
  have HT := Lib.hid hT
  have HK := Lib.hid hK
  have HX4 := Lib.hid hX4
  have HX5 := Lib.hid hX5
  have HB := Lib.hid hb
  have HC := Lib.hid hc
  clear hr hS hD hT hK hX4 hX5 hb hc
  go_enter Tryz.func35, Tryz.ntmps35
  go_upto_region 3 with fail
  have B1 : Below w.heap.size w (w.alloc (.cells #[.int .i64 0, .int .i64 0, .int .i64 0, .int .i64 0, .int .i64 0, .slice none 0 0] 44)) := by go_grown
  have hs1 : (w.alloc (.cells #[.int .i64 0, .int .i64 0, .int .i64 0, .int .i64 0, .int .i64 0, .slice none 0 0] 44)).heap.size = w.heap.size + 1 := by simp
  have hz1 : (w.alloc (.cells #[.int .i64 0, .int .i64 0, .int .i64 0, .int .i64 0, .int .i64 0, .slice none 0 0] 44)).heap[w.heap.size]? = some (.cells #[.int .i64 0, .int .i64 0, .int .i64 0, .int .i64 0, .int .i64 0, .slice none 0 0] 44) := heap_alloc_new w _
  generalize w.alloc (.cells #[.int .i64 0, .int .i64 0, .int .i64 0, .int .i64 0, .int .i64 0, .slice none 0 0] 44) = W1 at *
  have HZ1 := Lib.hid hz1
  have hc1 : ∀ i, i < n → W1.cell? ⟨b, off + i, none⟩ = some (.int .u8 (xs.getD i 0)) := fun i hi => by rw [B1.cell hbl]; exact HC.out i hi
  have c4 := hc1 4 (by omega)
  have c5 := hc1 5 (by omega)
  have c8 := hc1 8 (by omega)
  have c9 := hc1 9 (by omega)
  rw [HX4.out] at c4
  rw [HX5.out] at c5
  rw [HT.out] at c8
  rw [HK.out] at c9
  have F1 : ∀ (W : World), (Below (w.heap.size + 1) W1 W) → Calls Tryz.prog 76 #[.slice (some ⟨b, off + 12, none⟩) (n - 12) (c - 12)] W fun e w' => e = .returned (.int .i64 S) ∧ ∃ q, w' = W.drewN q := fun W hB => by
    have hs : ∀ o, W.cell? ⟨b, o, none⟩ = W1.cell? ⟨b, o, none⟩ := fun o => hB.cell (p := ⟨b, o, none⟩) (by show b < _; omega)
    rw [← HS.out]
    exact four_any b (off + 12) (n - 12) (c - 12) _ _ _ _ W (by omega) ((hs _).trans (hc1 12 (by omega))) ((hs _).trans (hc1 13 (by omega))) ((hs _).trans (hc1 14 (by omega))) ((hs _).trans (hc1 15 (by omega))) (HB.out.getD 12) (HB.out.getD 13) (HB.out.getD 14) (HB.out.getD 15)
  have F2 : ∀ (W : World), (Below (w.heap.size + 1) W1 W) → Calls Tryz.prog 76 #[.slice (some ⟨b, off + 16, none⟩) (n - 16) (c - 16)] W fun e w' => e = .returned (.int .i64 D) ∧ ∃ q, w' = W.drewN q := fun W hB => by
    have hs : ∀ o, W.cell? ⟨b, o, none⟩ = W1.cell? ⟨b, o, none⟩ := fun o => hB.cell (p := ⟨b, o, none⟩) (by show b < _; omega)
    rw [← HD.out]
    exact four_any b (off + 16) (n - 16) (c - 16) _ _ _ _ W (by omega) ((hs _).trans (hc1 16 (by omega))) ((hs _).trans (hc1 17 (by omega))) ((hs _).trans (hc1 18 (by omega))) ((hs _).trans (hc1 19 (by omega))) (HB.out.getD 16) (HB.out.getD 17) (HB.out.getD 18) (HB.out.getD 19)
  have n12 : ¬ c = 12 := by omega
  have n16 : ¬ c = 16 := by omega
  have nb : ¬ b = w.heap.size + 1 := by omega
  have nb' : ¬ w.heap.size + 1 = b := by omega
  have i4 : (4 : Int) < (n : Int) := by omega
  have i5 : (5 : Int) < (n : Int) := by omega
  have i8 : (8 : Int) < (n : Int) := by omega
  have i9 : (9 : Int) < (n : Int) := by omega
  have HC1 := Lib.hid hc1
  have HF1 := Lib.hid F1
  have HF2 := Lib.hid F2
  clear hc1 F1 F2 hz1
  go_cut [4] (fun s4 wx => s4 = .pointer (some ⟨w.heap.size + 1, 0, none⟩) ∧ Below (w.heap.size + 1) W1 wx ∧ wx.heap.size = w.heap.size + 2 ∧
    wx.cell? ⟨w.heap.size + 1, 0, none⟩ = some (.int .i64 S) ∧ wx.cell? ⟨w.heap.size + 1, 1, none⟩ = some (.int .i64 D) ∧ wx.cell? ⟨w.heap.size + 1, 2, none⟩ = some (.int .i64 T) ∧
    wx.cell? ⟨w.heap.size + 1, 3, none⟩ = some (.int .i64 K) ∧ wx.cell? ⟨w.heap.size + 1, 4, none⟩ = some (.int .i64 (X4 * 256 + X5)) ∧ wx.cell? ⟨w.heap.size + 1, 5, none⟩ = some (.slice none 0 0) ∧
    wx.frozen? ⟨w.heap.size + 1, 5, none⟩ = false)
  case first =>
    go_region_held3 (fun w' => w'.cell? ⟨b, off + 4, none⟩ = some (.int .u8 X4) ∧ w'.cell? ⟨b, off + 5, none⟩ = some (.int .u8 X5) ∧ w'.cell? ⟨b, off + 8, none⟩ = some (.int .u8 T) ∧ w'.cell? ⟨b, off + 9, none⟩ = some (.int .u8 K))
      (first | go_keep)
      (first
        | (go_at_call 76; (with_reducible refine (HF1.out _ (by repeat' (first | (with_reducible exact Below.refl _ _) | (with_reducible refine below_drewN ?_ _) | (with_reducible refine Below.drew ?_) | (with_reducible refine Below.alloc ?_ ?_ _) | go_size))).mono ?_); rintro e w' ⟨rfl, q1, rfl⟩)
        | (go_at_call 76; (with_reducible refine (HF2.out _ (by repeat' (first | (with_reducible exact Below.refl _ _) | (with_reducible refine below_drewN ?_ _) | (with_reducible refine Below.drew ?_) | (with_reducible refine Below.alloc ?_ ?_ _) | go_size))).mono ?_); rintro e w' ⟨rfl, q2, rfl⟩))
    all_goals
      go_wp2_with fail
      go_meet
      refine ⟨rfl, ?_, by simp [hs1], by simp [go_sem, hs1], by simp [go_sem, hs1], by simp [go_sem, hs1], by simp [go_sem, hs1], by simp [go_sem, hs1], by simp [go_sem, hs1], by simp [go_sem, hs1]⟩
      repeat' (first | (with_reducible exact Below.refl _ _) | (with_reducible refine below_drewN ?_ _) | (with_reducible refine Below.drew ?_) | (with_reducible refine Below.setCell ?_ ?_ _) | (with_reducible refine Below.alloc ?_ ?_ _) | go_size | (simp [hs1]; done))
  case rest =>
    obtain ⟨rfl, B2, hs2, z0, z1, z2, z3, z4, z5, zf⟩ := hcut
    have q0 : Below w.heap.size w wc := B1.trans (B2.mono (by omega))
    have hz2 : wc.heap[w.heap.size]? = some (.cells #[.int .i64 0, .int .i64 0, .int .i64 0, .int .i64 0, .int .i64 0, .slice none 0 0] 44) := by rw [B2.block _ (by omega)]; exact HZ1.out
    have HZ2 := Lib.hid hz2
    have i20 := ((HR.out).below q0).dropped 20 c h0 hnc
    have i00 := (HR.out).below q0
    have Hs2 := Lib.hid hs2
    clear hz2 hs2
    have kc' : ¬ c = 10 := by omega
    have kn : (12 : Int) ≤ (n : Int) := by omega
    have kcc : (12 : Int) ≤ (c : Int) := by omega
    rcases Nat.lt_or_ge 20 c with hc20 | hc20
    case' inl =>
      have e20 : ¬ c = 20 := by omega
      rw [if_neg e20] at i20
      go_wp2_with fail
      with_reducible refine (clone_any _ _ _ (xs.drop 20) wc i20 (fun h => by cases h) (by omega)).mono ?_
    case' inr =>
      obtain rfl : c = 20 := by omega
      obtain rfl : n = 20 := by omega
      rw [if_pos rfl] at i20
      have i20' : Ints .u8 wc (some ⟨b, off, none⟩) 0 (xs.drop 20) := i20
      go_wp2_with fail
      with_reducible refine (clone_any _ _ _ (xs.drop 20) wc i20' (fun h => by cases h) (by omega)).mono ?_
    all_goals
      rintro e W3 ⟨v, rfl, o3, b3⟩
      have hs3 := b3.size
      have y0 := (b3.cell (p := ⟨w.heap.size + 1, 0, none⟩) (by rw [Hs2.out]; simp)).trans z0
      have y1 := (b3.cell (p := ⟨w.heap.size + 1, 1, none⟩) (by rw [Hs2.out]; simp)).trans z1
      have y2 := (b3.cell (p := ⟨w.heap.size + 1, 2, none⟩) (by rw [Hs2.out]; simp)).trans z2
      have y3 := (b3.cell (p := ⟨w.heap.size + 1, 3, none⟩) (by rw [Hs2.out]; simp)).trans z3
      have y4 := (b3.cell (p := ⟨w.heap.size + 1, 4, none⟩) (by rw [Hs2.out]; simp)).trans z4
      have y5 := (b3.cell (p := ⟨w.heap.size + 1, 5, none⟩) (by rw [Hs2.out]; simp)).trans z5
      have yf := (b3.frozen (p := ⟨w.heap.size + 1, 5, none⟩) (by rw [Hs2.out]; simp)).trans zf
      clear z0 z1 z2 z3 z4 z5 zf
      obtain ⟨av, nv, cv, rfl, hcv, rv⟩ := o3.read
      have hnv : nv ≤ 320 := by have := rv.len; rw [List.length_drop] at this; have := (HR.out).len; omega
      have B3 := q0.trans (b3.mono q0.size)
      have i03 := i00.below b3
      have s3 : w.heap.size + 2 ≤ W3.heap.size := by have := Hs2.out; omega
      go_wp2_with fail
      have B4 : Below w.heap.size w (W3.setCell ⟨w.heap.size + 1, 5, none⟩ (.slice av nv cv)) := B3.setCell (p := ⟨w.heap.size + 1, 5, none⟩) (by show w.heap.size ≤ w.heap.size + 1; omega) _
      have o4 := o3.setOther (p := ⟨w.heap.size + 1, 5, none⟩) (by rw [Hs2.out]; simp) (.slice av nv cv)
      have hz3 : W3.heap[w.heap.size]? = some (.cells #[.int .i64 0, .int .i64 0, .int .i64 0, .int .i64 0, .int .i64 0, .slice none 0 0] 44) := by rw [b3.block _ (by rw [Hs2.out]; omega)]; exact HZ2.out
      have hz4 : (W3.setCell ⟨w.heap.size + 1, 5, none⟩ (.slice av nv cv)).heap[w.heap.size]? = some (.cells #[.int .i64 0, .int .i64 0, .int .i64 0, .int .i64 0, .int .i64 0, .slice none 0 0] 44) := by
        rw [Below.heap_setCell _ _ _ _ (by simp)]; exact hz3
      have t0 : (W3.setCell ⟨w.heap.size + 1, 5, none⟩ (.slice av nv cv)).cell? ⟨w.heap.size + 1, 0, none⟩ = some (.int .i64 S) := by simp [go_sem, y0]
      have t1 : (W3.setCell ⟨w.heap.size + 1, 5, none⟩ (.slice av nv cv)).cell? ⟨w.heap.size + 1, 1, none⟩ = some (.int .i64 D) := by simp [go_sem, y1]
      have t2 : (W3.setCell ⟨w.heap.size + 1, 5, none⟩ (.slice av nv cv)).cell? ⟨w.heap.size + 1, 2, none⟩ = some (.int .i64 T) := by simp [go_sem, y2]
      have t3 : (W3.setCell ⟨w.heap.size + 1, 5, none⟩ (.slice av nv cv)).cell? ⟨w.heap.size + 1, 3, none⟩ = some (.int .i64 K) := by simp [go_sem, y3]
      have t4 : (W3.setCell ⟨w.heap.size + 1, 5, none⟩ (.slice av nv cv)).cell? ⟨w.heap.size + 1, 4, none⟩ = some (.int .i64 (X4 * 256 + X5)) := by simp [go_sem, y4]
      have t5 : (W3.setCell ⟨w.heap.size + 1, 5, none⟩ (.slice av nv cv)).cell? ⟨w.heap.size + 1, 5, none⟩ = some (.slice av nv cv) := by simp [go_sem, y5]
      have hsz4 : w.heap.size + 2 ≤ (W3.setCell ⟨w.heap.size + 1, 5, none⟩ (.slice av nv cv)).heap.size := by simpa using s3
      generalize W3.setCell ⟨w.heap.size + 1, 5, none⟩ (.slice av nv cv) = W4 at *
      obtain ⟨_, _, _, hv4, _, rv4⟩ := o4.read
      cases hv4
      clear y0 y1 y2 y3 y4 y5 yf hz3
      refine (encode4_any S D T K (X4 * 256 + X5) av nv cv (xs.drop 20) W4 HOK.out hnv rv4).mono ?_
      rintro e W5 ⟨v5, rfl, o5, b5⟩
      obtain ⟨a5, n5, c5, rfl, hc5, r5⟩ := o5.read
      have B5 := B4.trans (b5.mono B4.size)
      have u0 := (b5.cell (p := ⟨w.heap.size + 1, 0, none⟩) (by show w.heap.size + 1 < _; omega)).trans t0
      have u1 := (b5.cell (p := ⟨w.heap.size + 1, 1, none⟩) (by show w.heap.size + 1 < _; omega)).trans t1
      have u2 := (b5.cell (p := ⟨w.heap.size + 1, 2, none⟩) (by show w.heap.size + 1 < _; omega)).trans t2
      have u3 := (b5.cell (p := ⟨w.heap.size + 1, 3, none⟩) (by show w.heap.size + 1 < _; omega)).trans t3
      have u4 := (b5.cell (p := ⟨w.heap.size + 1, 4, none⟩) (by show w.heap.size + 1 < _; omega)).trans t4
      have u5 := (b5.cell (p := ⟨w.heap.size + 1, 5, none⟩) (by show w.heap.size + 1 < _; omega)).trans t5
      have hz5 := (b5.block w.heap.size (by omega)).trans hz4
      have oo5 := o4.below b5 o4.lt'
      clear t0 t1 t2 t3 t4 t5 hz4
      have i05 := (HR.out).below B5
      have hI5 : Pl.IsB (Pl.enc4 S D T K (X4 * 256 + X5) (xs.drop 20)) := Pl.enc4_isB HOK.out (HB.out.drop 20) (by rw [← rv4.len] at hnv; exact hnv)
      have f0 : W5.cell? ⟨w.heap.size, 0, none⟩ = some (.int .i64 0) := by simp [World.cell?, hz5]
      have f1 : W5.cell? ⟨w.heap.size, 1, none⟩ = some (.int .i64 0) := by simp [World.cell?, hz5]
      have f2 : W5.cell? ⟨w.heap.size, 2, none⟩ = some (.int .i64 0) := by simp [World.cell?, hz5]
      have f3 : W5.cell? ⟨w.heap.size, 3, none⟩ = some (.int .i64 0) := by simp [World.cell?, hz5]
      have f4 : W5.cell? ⟨w.heap.size, 4, none⟩ = some (.int .i64 0) := by simp [World.cell?, hz5]
      have f5 : W5.cell? ⟨w.heap.size, 5, none⟩ = some (.slice none 0 0) := by simp [World.cell?, hz5]
      have g0 : ∀ j, W5.frozen? ⟨w.heap.size, j, none⟩ = false := fun j => frozen_of_row W5 w.heap.size j _ _ hz5
      have g00 := g0 0
      have g01 := g0 1
      have g02 := g0 2
      have g03 := g0 3
      have g04 := g0 4
      have g05 := g0 5
      clear g0
      by_cases hE : Pl.enc4 S D T K (X4 * 256 + X5) (xs.drop 20) = xs
      · rw [hE] at r5 o5
        go_wp2_with fail
        refine (equal_yes _ _ _ _ _ _ xs W5 r5 i05).mono ?_
        rintro e w' ⟨rfl, rfl⟩
        go_wp2_with fail
        refine bodyPost_ret (v := .tuple #[pk4 S D T K (X4 * 256 + X5) (.slice av nv cv), .nilIface]) (by simp [results, Tryz.results35, go_sem, f0, f1, f2, f3, f4, f5, pk4]) rfl ?_
        refine ⟨fun _ => ⟨.slice av nv cv, rfl, ?_⟩, fun hn => absurd hE hn, fun hn => absurd hE hn, ?_⟩
        · have hle : w.heap.size + 2 ≤ wc.heap.size := by rw [Hs2.out]; omega
          refine Own.mono ?_ (B := wc.heap.size) (by omega)
          repeat' (first | (with_reducible exact oo5) | (with_reducible refine Own.setOther ?_ ?_ _) | (show w.heap.size < wc.heap.size; omega))
        · repeat' (first | (with_reducible exact B5) | (with_reducible refine Below.setCell ?_ ?_ _) | (exact Nat.le_refl _))
      · have HE := Lib.hid hE
        clear hE
        go_wp2_with fail
        refine (equal_no _ _ _ _ _ _ _ xs W5 r5 i05 hI5 HB.out HE.out).mono ?_
        rintro e w' ⟨rfl, rfl⟩
        generalize hE5 : Pl.enc4 S D T K (X4 * 256 + X5) (xs.drop 20) = E5 at *
        have lE5 : E5.length = 20 + (xs.drop 20).length := by rw [← hE5]; exact Pl.enc4_length ..
        have HE5 := Lib.hid hE5
        clear hE5
        obtain ⟨g5, m5, d5, hs5, hn5, hc5', hg5, hg5', _, _⟩ := o5.shape (by omega)
        cases hs5
        have k10 : (10 : Int) ≤ (n5 : Int) := by omega
        have k12 : (12 : Int) ≤ (n5 : Int) := by omega
        have k12' : (12 : Int) ≤ (c5 : Int) := by omega
        have kc : ¬ c5 = 10 := by omega
        have is5 := i05.sub 10 12 (by omega) (by omega)
        have HL5 := Lib.hid lE5
        have HN5 := Lib.hid hn5
        clear lE5 hn5
        go_wp2_with fail
        go_region_law (first | (refine step_copy rfl (Operand.tmp 52) (Operand.tmp 54) rfl W4.heap.size g5 n5 c5 10 2 _ E5 (by first | exact o5 | exact o5.drew) rfl _ _ ((xs.drop 10).take 2) rfl (by first | exact is5 | exact is5.drew) (by omega) ?_; intro W6 o6 b6))
        have hb6 : Below W4.heap.size W5 W6 := ((Below.refl _ W5).drew).trans b6
        have B6 : Below w.heap.size w W6 := B5.trans (hb6.mono B4.size)
        have i06 := (HR.out).below B6
        have hP : E5.take 10 ++ ((xs.drop 10).take 2 ++ E5.drop (10 + 2)) = Pl.patch4 E5 xs := rfl
        rw [hP] at o6
        have hI6 : Pl.IsB (Pl.patch4 E5 xs) := (hI5.take 10).append (((HB.out.drop 10).take 2).append (hI5.drop 12))
        have hz6 := (hb6.block w.heap.size (by omega)).trans hz5
        clear f0 f1 f2 f3 f4 f5 g00 g01 g02 g03 g04 g05 is5
        have f0 : W6.cell? ⟨w.heap.size, 0, none⟩ = some (.int .i64 0) := by simp [World.cell?, hz6]
        have f1 : W6.cell? ⟨w.heap.size, 1, none⟩ = some (.int .i64 0) := by simp [World.cell?, hz6]
        have f2 : W6.cell? ⟨w.heap.size, 2, none⟩ = some (.int .i64 0) := by simp [World.cell?, hz6]
        have f3 : W6.cell? ⟨w.heap.size, 3, none⟩ = some (.int .i64 0) := by simp [World.cell?, hz6]
        have f4 : W6.cell? ⟨w.heap.size, 4, none⟩ = some (.int .i64 0) := by simp [World.cell?, hz6]
        have f5 : W6.cell? ⟨w.heap.size, 5, none⟩ = some (.slice none 0 0) := by simp [World.cell?, hz6]
        have g0 : ∀ j, W6.frozen? ⟨w.heap.size, j, none⟩ = false := fun j => frozen_of_row W6 w.heap.size j _ _ hz6
        have g00 := g0 0
        have g01 := g0 1
        have g02 := g0 2
        have g03 := g0 3
        have g04 := g0 4
        have g05 := g0 5
        clear g0
        obtain ⟨_, _, _, hv6, _, r6⟩ := o6.read
        cases hv6
        by_cases hQ : Pl.patch4 E5 xs = xs
        · rw [hQ] at r6
          go_wp2_with fail
          refine (equal_yes _ _ _ _ _ _ xs W6 r6 i06).mono ?_
          rintro e w' ⟨rfl, rfl⟩
          go_wp2_with fail
          refine bodyPost_ret (v := .tuple #[pk4 0 0 0 0 0 (.slice none 0 0), errv 6]) (by simp [results, Tryz.results35, go_sem, f0, f1, f2, f3, f4, f5, pk4, errv]) rfl ?_
          refine ⟨fun hn => absurd (HE5.out ▸ hn) HE.out, fun _ _ => rfl, fun _ hn => absurd (HE5.out ▸ hQ) hn, ?_⟩
          repeat' (first | (with_reducible exact B6) | (with_reducible refine Below.setCell ?_ ?_ _) | (exact Nat.le_refl _))
        · have HQ := Lib.hid hQ
          clear hQ
          go_wp2_with fail
          refine (equal_no _ _ _ _ _ _ _ xs W6 r6 i06 hI6 HB.out HQ.out).mono ?_
          rintro e w' ⟨rfl, rfl⟩
          go_wp2_with fail
          refine bodyPost_ret (v := .tuple #[pk4 0 0 0 0 0 (.slice none 0 0), errv 5]) (by simp [results, Tryz.results35, go_sem, f0, f1, f2, f3, f4, f5, pk4, errv]) rfl ?_
          refine ⟨fun hn => absurd (HE5.out ▸ hn) HE.out, fun _ hn => absurd (HE5.out ▸ hn) HQ.out, fun _ _ => rfl, ?_⟩
          repeat' (first | (with_reducible exact B6) | (with_reducible refine Below.setCell ?_ ?_ _) | (exact Nat.le_refl _))
end Go.Proofs.YtbjogkpepfgegaaGreatDoor
