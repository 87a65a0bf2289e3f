/- The law Pack4Back: a packet's bytes are that packet; their head sums up to 65535; with a bit of the head turned they are none; bytes that are a packet are its own. Conditions: none. -/
import Derived.Test.YtlakolkcmbfljaaOpen
import Derived.Test.YtlakolkcmbfljaaIp4l
import Derived.Test.YtlakolkcmbfljaaTurn
namespace Go.Proofs.Ytlakolkcmbfljaa.pack4Back
open Go.ChangeShapes Go.WideShapes Go.ChangeAt Go.RowKit

set_option maxRecDepth 100000 in
set_option maxHeartbeats 4000000 in
theorem walk (s d t k i : Int) (a0 : Option Addr) (n0 c0 : Nat) (x0 : List Int) (x1 : Int) (a2 : Option Addr) (n2 c2 : Nat) (x2 : List Int) (w : World)
    (w0 : (IsInt s ∧ IsInt d ∧ IsInt t ∧ IsInt k ∧ IsInt i) ∧ IsBytes w a0 n0 c0 x0 ∧ (a0 = none → c0 = 0)) (w1 : IsInt x1) (w2 : IsBytes w a2 n2 c2 x2) :
    Calls Try.prog 6 #[pk4 s d t k i (.slice a0 n0 c0), .int .i64 x1, .slice a2 n2 c2] w fun e w' => e = .returned (.bool true) ∧ Below w.heap.size w w' := by
  obtain ⟨_, ⟨i0, b0, hc0, hm0⟩, _⟩ := w0
  obtain ⟨i2, b2, hc2, hm2⟩ := w2
  obtain ⟨w10, w11⟩ := w1
  have P0 : Below w.heap.size w (w.alloc (.cells #[.int .i64 s, .int .i64 d, .int .i64 t, .int .i64 k, .int .i64 i, .slice a0 n0 c0] 36)) := by go_grown
  have z0 : (w.alloc (.cells #[.int .i64 s, .int .i64 d, .int .i64 t, .int .i64 k, .int .i64 i, .slice a0 n0 c0] 36)).heap[w.heap.size]? = some (.cells #[.int .i64 s, .int .i64 d, .int .i64 t, .int .i64 k, .int .i64 i, .slice a0 n0 c0] 36) := heap_alloc_new w _
  have s0 : w.heap.size + 1 ≤ (w.alloc (.cells #[.int .i64 s, .int .i64 d, .int .i64 t, .int .i64 k, .int .i64 i, .slice a0 n0 c0] 36)).heap.size := by simp
  have Z0 := Lib.hid z0
  clear z0 hm0 hm2
  unfold pk4
  go_enter Try.func6, Try.ntmps6
  go_wp2_with fail
  generalize w.alloc (.cells #[.int .i64 s, .int .i64 d, .int .i64 t, .int .i64 k, .int .i64 i, .slice a0 n0 c0] 36) = W0 at *
  refine (encode4_ok 0 0 1 17 0 none 0 0 [] W0 ⟨by omega, by omega, by omega, by omega, by omega⟩ (by omega) Ints.nil).mono ?_
  rintro e W1 ⟨v1, rfl, o1, p1⟩
  obtain ⟨f1, m1, e1, rfl, l1, r1⟩ := o1.read
  obtain rfl : 20 = m1 := r1.len
  obtain ⟨g1, j1, rfl, hg1, hcell⟩ := r1.at (by omega)
  have hc69 : W1.cell? ⟨g1, j1, none⟩ = some (.int .u8 69) := hcell 0 (by omega)
  have P1 := P0.trans (p1.mono P0.size)
  have z1 := (p1.block w.heap.size (by omega)).trans Z0.out
  have Z1 := Lib.hid z1
  clear z1 hcell
  go_wp2_with fail
  have i21 := i2.below P1
  refine (decode4_any a2 n2 c2 x2 W1 i21 b2 hc2).mono ?_
  rintro e W2 ⟨hcase, p2⟩
  have P2 := P1.trans (p2.mono P1.size)
  have hs1 := p1.size
  have hs2 := p2.size
  have z2 := (p2.block w.heap.size (by omega)).trans Z1.out
  have Z2 := Lib.hid z2
  clear z2
  rcases hcase with ⟨s', d', t', k', i', b', av, nv, cv, hok', hb', hl', hx2, rfl, ob'⟩ | ⟨hno, q, rfl⟩
  case' inl =>
    have q3 : Below w.heap.size w (W2.alloc (.cells #[.int .i64 s', .int .i64 d', .int .i64 t', .int .i64 k', .int .i64 i', .slice av nv cv] 36)) := by go_grown
    have u3 := (Below.heap_alloc W2 (.cells #[.int .i64 s', .int .i64 d', .int .i64 t', .int .i64 k', .int .i64 i', .slice av nv cv] 36) w.heap.size (by omega)).trans Z2.out
    have U3 := Lib.hid u3
    have rb' := ob'.below (w' := W2.alloc (.cells #[.int .i64 s', .int .i64 d', .int .i64 t', .int .i64 k', .int .i64 i', .slice av nv cv] 36)) (C := W2.heap.size) (by go_grown) ob'.lt'
    have hs3 : W2.heap.size ≤ (W2.alloc (.cells #[.int .i64 s', .int .i64 d', .int .i64 t', .int .i64 k', .int .i64 i', .slice av nv cv] 36)).heap.size := by simp
    obtain ⟨_, _, _, hv3, _, r3⟩ := rb'.read
    cases hv3
    clear u3
    unfold pk4
    go_wp2_with fail
    generalize W2.alloc (.cells #[.int .i64 s', .int .i64 d', .int .i64 t', .int .i64 k', .int .i64 i', .slice av nv cv] 36) = W3 at *
    refine (encode4_ok s' d' t' k' i' av nv cv b' W3 hok' (by rw [← r3.len]; exact hl') r3).mono ?_
    rintro e W4 ⟨v4, rfl, o4, p4⟩
    obtain ⟨f4, m4, e4, rfl, l4, r4⟩ := o4.read
    have P4 := q3.trans (p4.mono q3.size)
    have u4 := (p4.block w.heap.size (by omega)).trans U3.out
    obtain ⟨y0, y1, y2, y3, y4, y5⟩ := box6 u4
    have U4 := Lib.hid u4
    have i24 := i2.below P4
    rw [← hx2] at r4
    have cv1 := conv_str (c := e4) r4
    have cv2 := conv_str (c := c2) i24
    generalize strOfNums x2 = st at cv1 cv2
    have hs4 := p4.size
    have hS : w.heap.size + 1 ≤ W4.heap.size := by omega
    clear u4 r4 hx2 q3 U3 P2 P1 p4 p2 p1 P0 Z0 Z1 Z2 r3 rb' ob' o4
    go_wp2_with fail
  case' inr =>
    have P4 : Below w.heap.size w (W2.alloc (.cells #[.int .i64 0, .int .i64 0, .int .i64 0, .int .i64 0, .int .i64 0, .slice none 0 0] 36)) := by go_grown
    have u4 := (Below.heap_alloc W2 (.cells #[.int .i64 0, .int .i64 0, .int .i64 0, .int .i64 0, .int .i64 0, .slice none 0 0] 36) w.heap.size (by omega)).trans Z2.out
    obtain ⟨y0, y1, y2, y3, y4, y5⟩ := box6 u4
    have U4 := Lib.hid u4
    have hS : w.heap.size + 1 ≤ (W2.alloc (.cells #[.int .i64 0, .int .i64 0, .int .i64 0, .int .i64 0, .int .i64 0, .slice none 0 0] 36)).heap.size := by simp; omega
    clear u4 P2 P1 p2 p1 P0 Z0 Z1 Z2 hno
    unfold pk4 errv
    go_wp2_with fail
    generalize W2.alloc (.cells #[.int .i64 0, .int .i64 0, .int .i64 0, .int .i64 0, .int .i64 0, .slice none 0 0] 36) = W4 at *
  all_goals
    clear y0 y1 y2 y3 y4 y5
    by_cases hok : Pl.Ok4 s d t k i ∧ n0 ≤ 320
    case neg =>
      refine (encode4_bad s d t k i a0 n0 c0 W4 hok).mono ?_
      rintro e W5 ⟨⟨q, rfl⟩, p5⟩
      unfold errv
      go_wp2_with fail
      go_ret
      exact ⟨rfl, P4.trans (p5.mono P4.size)⟩
    case pos =>
      obtain ⟨hok, hn0⟩ := hok
      refine (encode4_ok s d t k i a0 n0 c0 x0 W4 hok hn0 (i0.below P4)).mono ?_
      rintro e W5 ⟨v5, rfl, o5, p5⟩
      obtain ⟨gx, nx, cx, rfl, hnx, lx, hgx, hgx', _, _⟩ := o5.shape (by rw [Pl.enc4_length]; omega)
      obtain ⟨_, _, _, hvx, _, rx⟩ := o5.read
      cases hvx
      have P5 := P4.trans (p5.mono P4.size)
      have u5 := (p5.block w.heap.size (by omega)).trans U4.out
      have U5 := Lib.hid u5
      have hS5 := p5.size
      have hl0 : x0.length ≤ 320 := by rw [i0.len]; exact hn0
      have hnx' : 20 ≤ nx := by rw [← hnx, Pl.enc4_length]; omega
      have k20 : (20 : Int) ≤ (cx : Int) := by omega
      have HNX := Lib.hid hnx
      clear u5 hnx
      go_wp2_with fail
      refine (decode4_enc (some ⟨gx, 0, none⟩) nx cx s d t k i x0 W5 rx hok b0 hl0 lx).mono ?_
      rintro e W6 ⟨ay, ny, cy, rfl, oy, p6⟩
      have P6 := P5.trans (p6.mono P5.size)
      have u6 := (p6.block w.heap.size (by omega)).trans U5.out
      have hS6 := p6.size
      have ox6 := o5.below p6 o5.lt'
      have P7 : Below w.heap.size w (W6.alloc (.cells #[.int .i64 s, .int .i64 d, .int .i64 t, .int .i64 k, .int .i64 i, .slice ay ny cy] 36)) := by go_grown
      have u7 := (Below.heap_alloc W6 (.cells #[.int .i64 s, .int .i64 d, .int .i64 t, .int .i64 k, .int .i64 i, .slice ay ny cy] 36) w.heap.size (by omega)).trans u6
      obtain ⟨y0, y1, y2, y3, y4, y5⟩ := box6 u7
      have oy7 := oy.below (w' := W6.alloc (.cells #[.int .i64 s, .int .i64 d, .int .i64 t, .int .i64 k, .int .i64 i, .slice ay ny cy] 36)) (C := W6.heap.size) (by go_grown) oy.lt'
      have ox7 := ox6.below (w' := W6.alloc (.cells #[.int .i64 s, .int .i64 d, .int .i64 t, .int .i64 k, .int .i64 i, .slice ay ny cy] 36)) (C := W6.heap.size) (by go_grown) ox6.lt'
      obtain ⟨_, _, _, hvy, _, ry7⟩ := oy7.read
      cases hvy
      clear u6 u7 P6 p6 p5 oy ox6 o5
      unfold pk4
      go_wp2_with fail
      clear y0 y1 y2 y3 y4 y5
      generalize W6.alloc (.cells #[.int .i64 s, .int .i64 d, .int .i64 t, .int .i64 k, .int .i64 i, .slice ay ny cy] 36) = W7 at *
      refine (pack4s_yes s d t k i ay a0 ny cy n0 c0 x0 W7 ry7 (i0.below P7)).mono ?_
      rintro e W8 ⟨rfl, p8⟩
      have P8 := P7.trans (p8.mono P7.size)
      have ox8 := ox7.below p8 ox7.lt'
      obtain ⟨_, _, _, hvx, _, rx8⟩ := ox8.read
      cases hvx
      have hI := Pl.enc4_isB hok b0 hl0
      go_wp2_with fail
      refine (of_ok _ 20 _ _ W8 (rx8.head 20 hnx') (hI.take 20) (by omega)).mono ?_
      rintro e w' ⟨rfl, rfl⟩
      rw [Pl.sum_enc4 hok hl0]
      by_cases h1 : x1 < 0
      · go_wp2
        go_ret
        exact ⟨rfl, P8⟩
      by_cases h2 : 160 ≤ x1
      · go_wp2
        go_ret
        exact ⟨rfl, P8⟩
      obtain ⟨bt, rfl⟩ := Int.eq_ofNat_of_zero_le (show 0 ≤ x1 by omega)
      have hj : bt / 8 < 20 := by omega
      go_wp2_with (at_builtin; refine Halt.out ?_)
      refine Halt.mk ?_
      refine app rfl _ _ rfl W8.heap.size _ [] rfl (Own.nil _ _) (some ⟨gx, 0, none⟩) nx cx _ rfl rx8 (by rw [List.length_nil]; have := rx8.len; rw [Pl.enc4_length] at this; omega) (Nat.le_refl _) ?_
      intro vz W9 oz p9
      rw [List.nil_append] at oz
      obtain ⟨gz, nz, cz, rfl, hnz, lz, hgz, hgz', hcz, hfz⟩ := oz.shape (by rw [Pl.enc4_length]; omega)
      have hpk : Pl.IsPk4 (Pl.enc4 s d t k i x0) := ⟨_, _, _, _, _, _, hok, b0, hl0, rfl⟩
      have hcj := hcz (bt / 8) (by rw [← hnz, Pl.enc4_length]; omega)
      have hfj := hfz (bt / 8)
      have hXb := hI.getD (bt / 8)
      have hturn := turn _ hXb.1 hXb.2 (bt % 8) (Nat.mod_lt _ (by omega))
      have hno := fun (y p : Int) (hp : 1 ≤ p ∧ p ≤ 128) hy => Pl.pk4_turn hpk (bt / 8) hj y p hp hy
      generalize Pl.enc4 s d t k i x0 = E at *
      have HNO := Lib.hid hno
      have hidx : (bt : Int) / 8 < (nz : Int) := by have h340 := (Pl.pk4_len hpk).1; omega
      have P9 := P8.trans (p9.mono P8.size)
      have hle : w.heap.size ≤ gz := by have := P8.size; omega
      clear hno hcz hfz hXb
      generalize E.getD (bt / 8) 0 = X at *
      have hm : bt % 8 = 0 ∨ bt % 8 = 1 ∨ bt % 8 = 2 ∨ bt % 8 = 3 ∨ bt % 8 = 4 ∨ bt % 8 = 5 ∨ bt % 8 = 6 ∨ bt % 8 = 7 := by omega
      rcases hm with hm | hm | hm | hm | hm | hm | hm | hm
      · have hmi : (bt : Int) % 8 = 0 := by omega
        rw [hm] at hturn
        have hT : Turned X (bits .xor .u8 X 1) 1 := hturn
        clear hturn
        have HT := Lib.hid hT
        clear hT
        go_wp2_with fail
        have oz2 := oz.store (bt / 8) (bits .xor .u8 X 1)
        obtain ⟨_, _, _, hv, _, rz2⟩ := oz2.read
        cases hv
        refine (decode4_any _ nz cz _ _ rz2 (hI.set _ HT.out.2.1 HT.out.2.2) lz).mono ?_
        rintro e W10 ⟨hcase, p10⟩
        have P10 : Below w.heap.size w W10 := (P9.setCell (p := ⟨gz, bt / 8, none⟩) hle _).trans (p10.mono (by simpa using P9.size))
        rcases hcase with ⟨_, _, _, _, _, _, _, _, _, q1, q2, q3, q4, _, _⟩ | ⟨_, q, rfl⟩
        · exact absurd ⟨_, _, _, _, _, _, q1, q2, q3, q4⟩ (HNO.out _ 1 ⟨by omega, by omega⟩ HT.out.1)
        · unfold errv pk4
          go_wp2
          go_ret
          exact ⟨rfl, P10⟩
      · have hmi : (bt : Int) % 8 = 1 := by omega
        rw [hm] at hturn
        have hT : Turned X (bits .xor .u8 X 2) 2 := hturn
        clear hturn
        have HT := Lib.hid hT
        clear hT
        go_wp2_with fail
        have oz2 := oz.store (bt / 8) (bits .xor .u8 X 2)
        obtain ⟨_, _, _, hv, _, rz2⟩ := oz2.read
        cases hv
        refine (decode4_any _ nz cz _ _ rz2 (hI.set _ HT.out.2.1 HT.out.2.2) lz).mono ?_
        rintro e W10 ⟨hcase, p10⟩
        have P10 : Below w.heap.size w W10 := (P9.setCell (p := ⟨gz, bt / 8, none⟩) hle _).trans (p10.mono (by simpa using P9.size))
        rcases hcase with ⟨_, _, _, _, _, _, _, _, _, q1, q2, q3, q4, _, _⟩ | ⟨_, q, rfl⟩
        · exact absurd ⟨_, _, _, _, _, _, q1, q2, q3, q4⟩ (HNO.out _ 2 ⟨by omega, by omega⟩ HT.out.1)
        · unfold errv pk4
          go_wp2
          go_ret
          exact ⟨rfl, P10⟩
      · have hmi : (bt : Int) % 8 = 2 := by omega
        rw [hm] at hturn
        have hT : Turned X (bits .xor .u8 X 4) 4 := hturn
        clear hturn
        have HT := Lib.hid hT
        clear hT
        go_wp2_with fail
        have oz2 := oz.store (bt / 8) (bits .xor .u8 X 4)
        obtain ⟨_, _, _, hv, _, rz2⟩ := oz2.read
        cases hv
        refine (decode4_any _ nz cz _ _ rz2 (hI.set _ HT.out.2.1 HT.out.2.2) lz).mono ?_
        rintro e W10 ⟨hcase, p10⟩
        have P10 : Below w.heap.size w W10 := (P9.setCell (p := ⟨gz, bt / 8, none⟩) hle _).trans (p10.mono (by simpa using P9.size))
        rcases hcase with ⟨_, _, _, _, _, _, _, _, _, q1, q2, q3, q4, _, _⟩ | ⟨_, q, rfl⟩
        · exact absurd ⟨_, _, _, _, _, _, q1, q2, q3, q4⟩ (HNO.out _ 4 ⟨by omega, by omega⟩ HT.out.1)
        · unfold errv pk4
          go_wp2
          go_ret
          exact ⟨rfl, P10⟩
      · have hmi : (bt : Int) % 8 = 3 := by omega
        rw [hm] at hturn
        have hT : Turned X (bits .xor .u8 X 8) 8 := hturn
        clear hturn
        have HT := Lib.hid hT
        clear hT
        go_wp2_with fail
        have oz2 := oz.store (bt / 8) (bits .xor .u8 X 8)
        obtain ⟨_, _, _, hv, _, rz2⟩ := oz2.read
        cases hv
        refine (decode4_any _ nz cz _ _ rz2 (hI.set _ HT.out.2.1 HT.out.2.2) lz).mono ?_
        rintro e W10 ⟨hcase, p10⟩
        have P10 : Below w.heap.size w W10 := (P9.setCell (p := ⟨gz, bt / 8, none⟩) hle _).trans (p10.mono (by simpa using P9.size))
        rcases hcase with ⟨_, _, _, _, _, _, _, _, _, q1, q2, q3, q4, _, _⟩ | ⟨_, q, rfl⟩
        · exact absurd ⟨_, _, _, _, _, _, q1, q2, q3, q4⟩ (HNO.out _ 8 ⟨by omega, by omega⟩ HT.out.1)
        · unfold errv pk4
          go_wp2
          go_ret
          exact ⟨rfl, P10⟩
      · have hmi : (bt : Int) % 8 = 4 := by omega
        rw [hm] at hturn
        have hT : Turned X (bits .xor .u8 X 16) 16 := hturn
        clear hturn
        have HT := Lib.hid hT
        clear hT
        go_wp2_with fail
        have oz2 := oz.store (bt / 8) (bits .xor .u8 X 16)
        obtain ⟨_, _, _, hv, _, rz2⟩ := oz2.read
        cases hv
        refine (decode4_any _ nz cz _ _ rz2 (hI.set _ HT.out.2.1 HT.out.2.2) lz).mono ?_
        rintro e W10 ⟨hcase, p10⟩
        have P10 : Below w.heap.size w W10 := (P9.setCell (p := ⟨gz, bt / 8, none⟩) hle _).trans (p10.mono (by simpa using P9.size))
        rcases hcase with ⟨_, _, _, _, _, _, _, _, _, q1, q2, q3, q4, _, _⟩ | ⟨_, q, rfl⟩
        · exact absurd ⟨_, _, _, _, _, _, q1, q2, q3, q4⟩ (HNO.out _ 16 ⟨by omega, by omega⟩ HT.out.1)
        · unfold errv pk4
          go_wp2
          go_ret
          exact ⟨rfl, P10⟩
      · have hmi : (bt : Int) % 8 = 5 := by omega
        rw [hm] at hturn
        have hT : Turned X (bits .xor .u8 X 32) 32 := hturn
        clear hturn
        have HT := Lib.hid hT
        clear hT
        go_wp2_with fail
        have oz2 := oz.store (bt / 8) (bits .xor .u8 X 32)
        obtain ⟨_, _, _, hv, _, rz2⟩ := oz2.read
        cases hv
        refine (decode4_any _ nz cz _ _ rz2 (hI.set _ HT.out.2.1 HT.out.2.2) lz).mono ?_
        rintro e W10 ⟨hcase, p10⟩
        have P10 : Below w.heap.size w W10 := (P9.setCell (p := ⟨gz, bt / 8, none⟩) hle _).trans (p10.mono (by simpa using P9.size))
        rcases hcase with ⟨_, _, _, _, _, _, _, _, _, q1, q2, q3, q4, _, _⟩ | ⟨_, q, rfl⟩
        · exact absurd ⟨_, _, _, _, _, _, q1, q2, q3, q4⟩ (HNO.out _ 32 ⟨by omega, by omega⟩ HT.out.1)
        · unfold errv pk4
          go_wp2
          go_ret
          exact ⟨rfl, P10⟩
      · have hmi : (bt : Int) % 8 = 6 := by omega
        rw [hm] at hturn
        have hT : Turned X (bits .xor .u8 X 64) 64 := hturn
        clear hturn
        have HT := Lib.hid hT
        clear hT
        go_wp2_with fail
        have oz2 := oz.store (bt / 8) (bits .xor .u8 X 64)
        obtain ⟨_, _, _, hv, _, rz2⟩ := oz2.read
        cases hv
        refine (decode4_any _ nz cz _ _ rz2 (hI.set _ HT.out.2.1 HT.out.2.2) lz).mono ?_
        rintro e W10 ⟨hcase, p10⟩
        have P10 : Below w.heap.size w W10 := (P9.setCell (p := ⟨gz, bt / 8, none⟩) hle _).trans (p10.mono (by simpa using P9.size))
        rcases hcase with ⟨_, _, _, _, _, _, _, _, _, q1, q2, q3, q4, _, _⟩ | ⟨_, q, rfl⟩
        · exact absurd ⟨_, _, _, _, _, _, q1, q2, q3, q4⟩ (HNO.out _ 64 ⟨by omega, by omega⟩ HT.out.1)
        · unfold errv pk4
          go_wp2
          go_ret
          exact ⟨rfl, P10⟩
      · have hmi : (bt : Int) % 8 = 7 := by omega
        rw [hm] at hturn
        have hT : Turned X (bits .xor .u8 X 128) 128 := hturn
        clear hturn
        have HT := Lib.hid hT
        clear hT
        go_wp2_with fail
        have oz2 := oz.store (bt / 8) (bits .xor .u8 X 128)
        obtain ⟨_, _, _, hv, _, rz2⟩ := oz2.read
        cases hv
        refine (decode4_any _ nz cz _ _ rz2 (hI.set _ HT.out.2.1 HT.out.2.2) lz).mono ?_
        rintro e W10 ⟨hcase, p10⟩
        have P10 : Below w.heap.size w W10 := (P9.setCell (p := ⟨gz, bt / 8, none⟩) hle _).trans (p10.mono (by simpa using P9.size))
        rcases hcase with ⟨_, _, _, _, _, _, _, _, _, q1, q2, q3, q4, _, _⟩ | ⟨_, q, rfl⟩
        · exact absurd ⟨_, _, _, _, _, _, q1, q2, q3, q4⟩ (HNO.out _ 128 ⟨by omega, by omega⟩ HT.out.1)
        · unfold errv pk4
          go_wp2
          go_ret
          exact ⟨rfl, P10⟩

set_option maxRecDepth 100000 in
theorem lifted (os : Os) (started : os.Started) (H : Type) (enc : TypeId × Value → H) :
    ReturnsInHanded {} Try.checked os 6 .any (Rows.pack4BackSpec.pre6 enc Try.prog Try.f6 Rows.pack4BackRow.domain false) (Rows.pack4BackSpec.post enc Try.prog Try.f6 false true false false) := by
  refine returnsInHanded_of_change (C := Try.checked) own started (by kernel_rfl) Try.func6
    (ChangeSpec.witness6 (enc := enc) (C := Try.checked) false ⟨#[], #[.agg #[.int .i64 0, .int .i64 0, .int .i64 0, .int .i64 0, .int .i64 0, .slice none 0 0], .int .i64 0, .slice none 0 0], []⟩ 8 (by kernel_rfl) (by kernel_rfl) (by kernel_rfl) (by kernel_rfl)) ?_
  intro W base args ds gs before hval0 hW hcnd _
  have hval : ∀ (j : Nat) t v, Try.f6.params[j]? = some t → args[j]? = some v → Value.okWide Try.prog W .any base t v := hval0
  have hW' := hW
  obtain ⟨p, q, hA0, hV, rfl, hfz, hnd⟩ := hW
  have hA : DataW.TrodAll enc Try.prog W 0 (fun _ => true) true Try.f6.params.toList args.toList ds p := hA0
  rw [Try.params6] at hA hval
  obtain ⟨v0, vs0, d0, ds0, p0, q0, hargs, rfl, rfl, h0, r0⟩ := trodAll_cons hA
  obtain ⟨v1, vs1, d1, ds1, p1, q1, rfl, rfl, rfl, h1, r1⟩ := trodAll_cons r0
  obtain ⟨v2, vs2, d2, ds2, p2, q2, rfl, rfl, rfl, h2, r2⟩ := trodAll_cons r1
  obtain ⟨rfl, rfl, rfl⟩ := trodAll_nil r2
  obtain rfl : args = #[v0, v1, v2] := by cases args; simp_all
  obtain ⟨rfl, rfl⟩ := trodVars_none hV
  have lt0 : ∀ x ∈ p0, x.block < W.heap.size := by obtain ⟨m, hm⟩ := h0; exact DataW.trod_lt m _ _ _ hm
  have k0 := h0
  obtain ⟨ps0, pd0, pt0, pk0, pi0, a0, n0, c0, x0, rfl, w0⟩ := open_pack4 (hval 0 36 v0 rfl rfl) h0
  have lt1 : ∀ x ∈ p1, x.block < W.heap.size := by obtain ⟨m, hm⟩ := h1; exact DataW.trod_lt m _ _ _ hm
  have k1 := h1
  obtain ⟨x1, rfl, _, _, w1'⟩ := open_int Try.underlying3 (hval 1 3 v1 rfl rfl) h1
  have w1 : IsInt x1 := wf_i64 w1'
  have lt2 : ∀ x ∈ p2, x.block < W.heap.size := by obtain ⟨m, hm⟩ := h2; exact DataW.trod_lt m _ _ _ hm
  have k2 := h2
  obtain ⟨a2, n2, c2, rfl⟩ := okWide_slice Try.underlying25 (hval 2 25 v2 rfl rfl)
  obtain ⟨x2, w2⟩ := open_bytes h2
  clear hA0 hval0
  refine (walk ps0 pd0 pt0 pk0 pi0 a0 n0 c0 x0 x1 a2 n2 c2 x2 W w0 w1 w2).mono fun e W' ⟨he, bel⟩ => ?_
  subst he
  exact ⟨_, rfl, _, _, _, [], _, [], hW', trodAll_mk1 (shut_bool Try.underlying4 _), (trodAll_cons_mk (Below.trod laidOut (by kernel_rfl) (of_decide_eq_true (by kernel_rfl)) k0 bel lt0) (trodAll_cons_mk (Below.trod laidOut (by kernel_rfl) (of_decide_eq_true (by kernel_rfl)) k1 bel lt1) (trodAll_cons_mk (Below.trod laidOut (by kernel_rfl) (of_decide_eq_true (by kernel_rfl)) k2 bel lt2) trodAll_mk0))), rfl, bel.frame _, fun h => by cases h⟩

theorem over : Rows.pack4BackRow.holds Try.pinned (OpenSpec.ofChange Rows.pack4BackSpec) :=
  OpenClaim.holds_of_wide 6 Try.f6 rfl rfl rfl rfl rfl rfl rfl ⟨rfl, rfl, rfl, rfl, rfl⟩ rfl rfl rfl rfl rfl (by kernel_rfl) Try.func6 (by kernel_rfl)
    (of_decide_eq_true (by kernel_rfl)) (by unfold Func.isWrapper; first | (rw [if_pos (by decide +kernel)]; kernel_rfl) | (rw [if_neg (by decide +kernel)]; exact ⟨rfl, rfl⟩))
    (fun os started H enc _ => lifted os started H enc)

/-- THE STATEMENT. -/
theorem proved : Rows.Pack4BackSaid := over
#print axioms proved
end Go.Proofs.Ytlakolkcmbfljaa.pack4Back
