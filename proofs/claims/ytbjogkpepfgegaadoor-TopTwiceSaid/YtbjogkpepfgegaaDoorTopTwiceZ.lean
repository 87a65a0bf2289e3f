/- The law TopTwice: what crosses to fours and back by itself comes back as it went, whatever the addresses between. Conditions: the row's own: gangplank/proxy.sign is left open, and is never read. -/
import Derived.Test.YtbjogkpepfgegaaDoorK00
import Derived.Test.YtbjogkpepfgegaaDoorK17
import Derived.Test.YtbjogkpepfgegaaDoorK02
import Derived.Test.YtbjogkpepfgegaaDoorK51
import Derived.Test.YtbjogkpepfgegaaDoorK47
import Derived.Test.YtbjogkpepfgegaaDoorK07
import Derived.Deep.DeepCutAuto
namespace Go.Proofs.YtbjogkpepfgegaaDoor.topTwice
open Go.ChangeShapes Go.WideShapes Go.ChangeAt Go.RowKit
theorem to4_ok (p : P6) (a : Option Addr) (n c : Nat) (xs : List Int) (src dst : Int) (w : World) (hr : Ints .u8 w a n xs) (hb : Pl.IsB xs) (hnc : n ≤ c) (hc : a = none → c = 0) (hq : x4Q p n xs src dst = 0) :
    Calls Tryd.prog 15 #[p.v (.slice a n c), .int .i64 src, .int .i64 dst] w fun e w' => ∃ a' c', e = .returned (.tuple #[.agg (c4 src dst (p.hop - 1) p.kind 0 (.slice a' n c')), .nilIface]) ∧ Own w' w.heap.size (.slice a' n c') (Crossing.body p xs src dst) ∧ Ext w w' := by
  refine (to4_any p a n c xs src dst w hr hb hnc hc).mono ?_
  rintro e w' ⟨a', n', c', rfl, o, q⟩
  have hX := crossing_of hr.len hb hq
  rw [hq, Crossing.body_eq] at o
  have hn : n = n' := hX.len.symm.trans o.len
  subst hn
  refine ⟨a', c', ?_, o, q⟩
  rw [hq]
  rfl
theorem to4_err (p : P6) (a : Option Addr) (n c : Nat) (xs : List Int) (src dst : Int) (w : World) (hr : Ints .u8 w a n xs) (hb : Pl.IsB xs) (hnc : n ≤ c) (hc : a = none → c = 0) (hq : x4Q p n xs src dst ≠ 0) :
    Calls Tryd.prog 15 #[p.v (.slice a n c), .int .i64 src, .int .i64 dst] w fun e w' => ∃ x0 x1 x2 x3 a' n' c', e = .returned (.tuple #[.agg (c4 x0 x1 x2 x3 0 (.slice a' n' c')), errv (x4Q p n xs src dst)]) ∧ Ext w w' := by
  refine (to4_any p a n c xs src dst w hr hb hnc hc).mono ?_
  rintro e w' ⟨a', n', c', rfl, _, q⟩
  exact ⟨_, _, _, _, a', n', c', by rw [erv_ne hq]; rfl, q⟩
theorem to6_ok (p : P6) (n : Nat) (xs : List Int) (x y : Int) (hX : Crossing p n xs x y) (hb : Pl.IsB xs) (hh : ¬ p.hop < 3) (a : Option Addr) (c : Nat) (w : World) (hr : Ints .u8 w a n (Crossing.body p xs x y)) (hnc : n ≤ c) (hc : a = none → c = 0) :
    Calls Tryd.prog 16 #[.agg (c4 x y (p.hop - 1) p.kind 0 (.slice a n c)), p.src.v, p.dst.v] w fun e w' => ∃ a' n' c', e = .returned (.tuple #[.agg ((⟨p.src, p.dst, p.hop - 1 - 1, p.kind⟩ : P6).cells (.slice a' n' c')), .nilIface]) ∧ Own w' w.heap.size (.slice a' n' c') xs ∧ Ext w w' := by
  have h0 : x6Q x y (p.hop - 1) p.kind 0 n (Crossing.body p xs x y) p.src p.dst = 0 := by rw [hX.back, if_neg hh]
  refine (to6_any x y (p.hop - 1) p.kind 0 a n c _ p.src p.dst w hr (hX.isB hb) hnc hc).mono ?_
  rintro e w' ⟨a', n', c', rfl, o, q⟩
  rw [h0, hX.same.1] at o
  rw [h0, hX.same.2]
  exact ⟨a', n', c', rfl, o, q⟩
/-- Only the addresses between can be wrong. -/
theorem cross_q (s : Sg) (src dst : Six) (hop : Int) (xs : List Int) (x y : Int) (h : SentOk s src dst hop xs.length) (hh : ¬ hop < 3) :
    x4Q ⟨src, dst, hop, s.kind⟩ (body6 s src dst xs).length (body6 s src dst xs) x y = if w32 x = true ∧ w32 y = true then 0 else 1 := by
  unfold x4Q
  have h1 : (⟨src, dst, hop, s.kind⟩ : P6).fault (body6 s src dst xs).length = 0 := by
    unfold P6.fault
    rw [if_pos h.good, if_pos h.small]
  have h2 : Pl.opQ s.kind (body6 s src dst xs) (val6 src dst s.kind ((body6 s src dst xs).length : Nat)) = 0 := by
    rw [h.len]
    exact op6_body h.seg _ val6_word
  rw [if_neg (by rw [h1]; simp)]
  by_cases hw : w32 x = true ∧ w32 y = true
  · rw [if_neg (by simp [hw]), if_neg (by rw [h2]; simp), if_neg (by show ¬ hop < 2; omega), if_pos hw]
  · rw [if_pos hw, if_neg hw]
set_option maxRecDepth 100000 in
set_option maxHeartbeats 4000000 in
theorem walk (s0 : Sg) (a0 : Option Addr) (n0 c0 : Nat) (x0 : List Int) (y1 y2 : Six) (x3 x4 x5 : Int) (w : World) (w0 : Sd.Is w ⟨s0, a0, n0, c0, x0⟩) (_ : y1.Is) (_ : y2.Is) (_ : IsInt x3) (_ : IsInt x4) (_ : IsInt x5) :
    Calls Tryd.prog 4 #[s0.v (.slice a0 n0 c0), y1.v, y2.v, .int .i64 x3, .int .i64 x4, .int .i64 x5] w fun e w' => e = .returned (.bool true) ∧ Below w.heap.size w w' := by
  obtain ⟨⟨hb0, hB0, hn0, hm0⟩, _, _⟩ := w0
  have KS := ((Blk.new w 38 (s0.cells (.slice a0 n0 c0))).alloc (.cells y1.cells 23)).alloc (.cells y2.cells 23)
  have KA := (Blk.at (n := w.heap.size + 1) (w.alloc (.cells (s0.cells (.slice a0 n0 c0)) 38)) 23 y1.cells (by simp)).alloc (.cells y2.cells 23)
  have KB := Blk.at (n := w.heap.size + 2) ((w.alloc (.cells (s0.cells (.slice a0 n0 c0)) 38)).alloc (.cells y1.cells 23)) 23 y2.cells (by simp)
  have E0 : Ext w _ := (((Ext.refl w).alloc (.cells (s0.cells (.slice a0 n0 c0)) 38)).alloc (.cells y1.cells 23)).alloc (.cells y2.cells 23)
  have H0 := Lib.hid hb0
  have HB0 := Lib.hid hB0
  have HN0 := Lib.hid (show n0 ≤ maxLen from Nat.le_trans hn0 hm0)
  clear hb0 hB0 hm0
  unfold Six.v
  go_enter Tryd.func4, Tryd.ntmps4
  go_upto_region 1 with (fail)
  refine at_worldE (fun W => Ext w W ∧ Blk W w.heap.size 38 (s0.cells (.slice a0 n0 c0)) ∧ Blk W (w.heap.size + 1) 23 y1.cells ∧ Blk W (w.heap.size + 2) 23 y2.cells) ⟨E0, KS, KA, KB⟩ ?_
  clear E0 KS KA KB
  rintro W1 ⟨E1, KS, KA, KB⟩
  go_wp2_with fail
  refine (one_any W1).mono ?_
  rintro e W2 ⟨rfl, q2⟩
  have E2 := E1.trans q2
  replace KS := KS.ext q2
  replace KA := KA.ext q2
  replace KB := KB.ext q2
  clear E1 q2
  have ls := KS.seg
  have la : (Instr.loadAt 23 (.pointer (some ⟨w.heap.size + 1, 0, none⟩))).run Tryd.prog W2 = .ok (.agg #[.int .i64 y1.x0, .int .i64 y1.x1, .int .i64 y1.x2, .int .i64 y1.x3, .int .i64 y1.x4, .int .i64 y1.x5, .int .i64 y1.x6, .int .i64 y1.x7]) W2 := KA.six0
  have lb : (Instr.loadAt 23 (.pointer (some ⟨w.heap.size + 2, 0, none⟩))).run Tryd.prog W2 = .ok (.agg #[.int .i64 y2.x0, .int .i64 y2.x1, .int .i64 y2.x2, .int .i64 y2.x3, .int .i64 y2.x4, .int .i64 y2.x5, .int .i64 y2.x6, .int .i64 y2.x7]) W2 := KB.six0
  have HS := Lib.hid (sent_any s0 y1 y2 x3 a0 n0 c0 x0 W2 (H0.out.ext E2) HB0.out HN0.out)
  unfold Six.v at HS
  go_wp2_with ((apply load_by rfl _ _ rfl _ rfl); (focus (with_reducible assumption)))
  refine HS.out.mono ?_
  rintro e W3 ⟨⟨v3, rfl, o3⟩, q3⟩
  have E3 := E2.trans q3
  replace KA := KA.ext q3
  replace KB := KB.ext q3
  obtain ⟨a3, n3, c3, rfl, hn3, r3, _⟩ := o3.readn
  clear ls la lb HS E2 q3 KS o3
  cases hq : sentQ s0 y1 y2 x3 x0
  case false =>
    have hx : sentX s0 y1 y2 x3 x0 = [] := by unfold sentX; rw [hq, if_neg Bool.false_ne_true]
    rw [hx] at r3
    have HC := Lib.hid (decode6_bad a3 n3 c3 [] W3 r3 Pl.IsB.nil (fun h => by have := h.1.1; simp at this))
    clear hq hx r3 KA KB
    go_wp2_with fail
    refine HC.out.mono ?_
    rintro e W4 ⟨he, q4⟩
    unfold Bad6 at he
    subst he
    have KX := Blk.new W4 47 #[.int .i64 0, .int .i64 0, .int .i64 0, .int .i64 0, .int .i64 0, .int .i64 0, .int .i64 0, .int .i64 0, .int .i64 0, .int .i64 0, .int .i64 0, .int .i64 0, .int .i64 0, .int .i64 0, .int .i64 0, .int .i64 0, .int .i64 0, .int .i64 0, .slice none 0 0]
    have st := sto60 KX
    have HE := Lib.hid (((E3.trans q4).alloc (.cells #[.int .i64 0, .int .i64 0, .int .i64 0, .int .i64 0, .int .i64 0, .int .i64 0, .int .i64 0, .int .i64 0, .int .i64 0, .int .i64 0, .int .i64 0, .int .i64 0, .int .i64 0, .int .i64 0, .int .i64 0, .int .i64 0, .int .i64 0, .int .i64 0, .slice none 0 0] 47)).row (E3.trans q4).size #[.int .i64 0, .int .i64 0, .int .i64 0, .int .i64 0, .int .i64 0, .int .i64 0, .int .i64 0, .int .i64 0, .int .i64 0, .int .i64 0, .int .i64 0, .int .i64 0, .int .i64 0, .int .i64 0, .int .i64 0, .int .i64 0, .int .i64 0, .int .i64 0, .slice none 0 0])
    unfold errv
    clear KX q4 E3
    go_wp2_with ((apply store_by rfl _ _ _ rfl _ rfl); (focus (with_reducible assumption)); (focus rfl))
    go_returns
    exact ⟨rfl, HE.out⟩
  have hso := sentQ_ok hq
  have hx : sentX s0 y1 y2 x3 x0 = sent6 s0 y1 y2 x3 x0 := by unfold sentX; rw [hq, if_pos rfl]
  rw [hx] at r3
  have HSO := Lib.hid hso
  have HC := Lib.hid (dec6_sent s0 y1 y2 x3 x0 a3 n3 c3 W3 r3 HB0.out hso hn3)
  clear hq hx hso r3
  go_wp2_with fail
  refine HC.out.mono ?_
  rintro e W4 ⟨a4, n4, c4', rfl, o4, q4⟩
  have E4 := E3.trans q4
  replace KA := KA.ext q4
  replace KB := KB.ext q4
  obtain ⟨_, _, _, hv4, hn4, r4, hc4⟩ := o4.readn
  cases hv4
  have hl4 := r4.len
  have hb4 := KB.lt
  have KX := Blk.new W4 47 #[.int .i64 0, .int .i64 0, .int .i64 0, .int .i64 0, .int .i64 0, .int .i64 0, .int .i64 0, .int .i64 0, .int .i64 0, .int .i64 0, .int .i64 0, .int .i64 0, .int .i64 0, .int .i64 0, .int .i64 0, .int .i64 0, .int .i64 0, .int .i64 0, .slice none 0 0]
  have st := sto6l KX ⟨y1, y2, x3, s0.kind⟩ a4 n4 c4'
  have KP := KX.row ((⟨y1, y2, x3, s0.kind⟩ : P6).cells (.slice a4 n4 c4'))
  have E5 := (E4.alloc (.cells #[.int .i64 0, .int .i64 0, .int .i64 0, .int .i64 0, .int .i64 0, .int .i64 0, .int .i64 0, .int .i64 0, .int .i64 0, .int .i64 0, .int .i64 0, .int .i64 0, .int .i64 0, .int .i64 0, .int .i64 0, .int .i64 0, .int .i64 0, .int .i64 0, .slice none 0 0] 47)).row (k := W4.heap.size) E4.size ((⟨y1, y2, x3, s0.kind⟩ : P6).cells (.slice a4 n4 c4'))
  have KA5 := (KA.alloc (.cells #[.int .i64 0, .int .i64 0, .int .i64 0, .int .i64 0, .int .i64 0, .int .i64 0, .int .i64 0, .int .i64 0, .int .i64 0, .int .i64 0, .int .i64 0, .int .i64 0, .int .i64 0, .int .i64 0, .int .i64 0, .int .i64 0, .int .i64 0, .int .i64 0, .slice none 0 0] 47)).farRow (k := W4.heap.size) (by omega) ((⟨y1, y2, x3, s0.kind⟩ : P6).cells (.slice a4 n4 c4'))
  have KB5 := (KB.alloc (.cells #[.int .i64 0, .int .i64 0, .int .i64 0, .int .i64 0, .int .i64 0, .int .i64 0, .int .i64 0, .int .i64 0, .int .i64 0, .int .i64 0, .int .i64 0, .int .i64 0, .int .i64 0, .int .i64 0, .int .i64 0, .int .i64 0, .int .i64 0, .int .i64 0, .slice none 0 0] 47)).farRow (k := W4.heap.size) (by omega) ((⟨y1, y2, x3, s0.kind⟩ : P6).cells (.slice a4 n4 c4'))
  have r5 := Ints.keepRow (r4.ext ((Ext.refl W4).alloc (.cells #[.int .i64 0, .int .i64 0, .int .i64 0, .int .i64 0, .int .i64 0, .int .i64 0, .int .i64 0, .int .i64 0, .int .i64 0, .int .i64 0, .int .i64 0, .int .i64 0, .int .i64 0, .int .i64 0, .int .i64 0, .int .i64 0, .int .i64 0, .int .i64 0, .slice none 0 0] 47))) W4.heap.size ((⟨y1, y2, x3, s0.kind⟩ : P6).cells (.slice a4 n4 c4')) (fun h0 p hp => by
    obtain ⟨b, o, rfl, hb, _⟩ := r4.at h0
    cases hp
    show b ≠ _
    omega)
  have HBX := Lib.hid (HSO.out.body_isB HB0.out)
  clear KX KA KB E3 E4 q4 o4 r4 HC
  go_upto_region 5 with ((apply store_by rfl _ _ _ rfl _ rfl); (focus (with_reducible assumption)); (focus rfl))
  refine at_worldE (fun W => Ext w W ∧ Blk W (w.heap.size + 1) 23 y1.cells ∧ Blk W (w.heap.size + 2) 23 y2.cells ∧ Blk W W4.heap.size 47 ((⟨y1, y2, x3, s0.kind⟩ : P6).cells (.slice a4 n4 c4')) ∧ Ints .u8 W a4 n4 (body6 s0 y1 y2 x0)) ⟨E5, KA5, KB5, KP, r5⟩ ?_
  clear E5 KA5 KB5 KP r5 st
  rintro W5 ⟨E5, KA, KB, KP, r5⟩
  generalize W4.heap.size = gp at *
  by_cases hh : x3 < 3
  · have d : decide (x3 < 3) = true := decide_eq_true hh
    have HE := Lib.hid E5
    clear hh E5 KA KB KP r5
    go_wp2_with fail
    go_returns
    exact ⟨rfl, HE.out⟩
  have d : decide (x3 < 3) = false := decide_eq_false hh
  have HQ := Lib.hid (cross_q s0 y1 y2 x3 x0 x4 x5 HSO.out hh)
  have HH := Lib.hid hh
  obtain ⟨c16, _, _⟩ := KP.p6nums
  clear hh
  have ld := KP.p6
  rw [hl4] at HQ
  by_cases hw : w32 x4 = true ∧ w32 x5 = true
  case neg =>
    rw [if_neg hw] at HQ
    have HC := Lib.hid (to4_err ⟨y1, y2, x3, s0.kind⟩ a4 n4 c4' _ x4 x5 W5 r5 HBX.out hn4 hc4 (by rw [HQ.out]; decide))
    rw [HQ.out] at HC
    have hor : decide (x4 < 0) = true ∨ (decide (x4 < 0) = false ∧ (decide (4294967296 ≤ x4) = true ∨ (decide (4294967296 ≤ x4) = false ∧ (decide (x5 < 0) = true ∨ (decide (x5 < 0) = false ∧ decide (4294967296 ≤ x5) = true))))) := by
      unfold w32 at hw
      simp only [Bool.and_eq_true, decide_eq_true_eq] at hw
      simp only [decide_eq_true_eq, decide_eq_false_iff_not]
      omega
    clear hw r5 KA KB KP
    go_wp2_with ((apply load_by rfl _ _ rfl _ rfl); (focus (with_reducible assumption)))
    refine HC.out.mono ?_
    rintro e W6 ⟨z0, z1, z2, z3, a6, n6, c6, rfl, q6⟩
    have E6 := E5.trans q6
    have KX := Blk.new W6 42 (c4 0 0 0 0 0 (.slice none 0 0))
    have st := sto4 KX z0 z1 z2 z3 0 a6 n6 c6
    have HE := Lib.hid ((E6.alloc (.cells (c4 0 0 0 0 0 (.slice none 0 0)) 42)).row E6.size (c4 z0 z1 z2 z3 0 (.slice a6 n6 c6)))
    unfold errv
    clear KX q6 E6 E5 ld d c16
    rcases hor with d1 | ⟨d1, d2 | ⟨d2, d3 | ⟨d3, d4⟩⟩⟩
    all_goals
      go_wp2_with ((apply store_by rfl _ _ _ rfl _ rfl); (focus (with_reducible assumption)); (focus rfl))
      go_returns
      exact ⟨rfl, HE.out⟩
  rw [if_pos hw] at HQ
  have hX := crossing_of hl4 HBX.out HQ.out
  have HX := Lib.hid hX
  have HC := Lib.hid (to4_ok ⟨y1, y2, x3, s0.kind⟩ a4 n4 c4' _ x4 x5 W5 r5 HBX.out hn4 hc4 HQ.out)
  clear hw hX
  go_wp2_with ((apply load_by rfl _ _ rfl _ rfl); (focus (with_reducible assumption)))
  refine HC.out.mono ?_
  rintro e W6 ⟨a6, c6, rfl, o6, q6⟩
  have E6 := E5.trans q6
  replace KA := KA.ext q6
  replace KB := KB.ext q6
  replace KP := KP.ext q6
  replace r5 := r5.ext q6
  obtain ⟨_, _, _, hv6, hn6, r6, hc6⟩ := o6.readn
  cases hv6
  have hp6 := KP.lt
  have hb6 := KB.lt
  have KX := Blk.new W6 42 (c4 0 0 0 0 0 (.slice none 0 0))
  have st := sto4 KX x4 x5 (x3 - 1) s0.kind 0 a6 n4 c6
  have KQ := KX.row (c4 x4 x5 (x3 - 1) s0.kind 0 (.slice a6 n4 c6))
  have E7 := (E6.alloc (.cells (c4 0 0 0 0 0 (.slice none 0 0)) 42)).row (k := W6.heap.size) E6.size (c4 x4 x5 (x3 - 1) s0.kind 0 (.slice a6 n4 c6))
  have KA7 := (KA.alloc (.cells (c4 0 0 0 0 0 (.slice none 0 0)) 42)).farRow (k := W6.heap.size) (by omega) (c4 x4 x5 (x3 - 1) s0.kind 0 (.slice a6 n4 c6))
  have KB7 := (KB.alloc (.cells (c4 0 0 0 0 0 (.slice none 0 0)) 42)).farRow (k := W6.heap.size) (by omega) (c4 x4 x5 (x3 - 1) s0.kind 0 (.slice a6 n4 c6))
  have KP7 := (KP.alloc (.cells (c4 0 0 0 0 0 (.slice none 0 0)) 42)).farRow (k := W6.heap.size) (by omega) (c4 x4 x5 (x3 - 1) s0.kind 0 (.slice a6 n4 c6))
  have r7 := Ints.keepRow (r6.ext ((Ext.refl W6).alloc (.cells (c4 0 0 0 0 0 (.slice none 0 0)) 42))) W6.heap.size (c4 x4 x5 (x3 - 1) s0.kind 0 (.slice a6 n4 c6)) (fun h0 p hp => by
    obtain ⟨b, o, rfl, hb, _⟩ := r6.at h0
    cases hp
    show b ≠ _
    omega)
  have r8 := Ints.keepRow (r5.ext ((Ext.refl W6).alloc (.cells (c4 0 0 0 0 0 (.slice none 0 0)) 42))) W6.heap.size (c4 x4 x5 (x3 - 1) s0.kind 0 (.slice a6 n4 c6)) (fun h0 p hp => by
    obtain ⟨b, o, rfl, hb, _⟩ := r5.at h0
    cases hp
    show b ≠ _
    omega)
  clear KX KA KB KP E5 E6 q6 o6 r6 r5 HC ld d c16
  go_upto_region 10 with ((apply store_by rfl _ _ _ rfl _ rfl); (focus (with_reducible assumption)); (focus rfl))
  refine at_worldE (fun W => Ext w W ∧ Blk W (w.heap.size + 1) 23 y1.cells ∧ Blk W (w.heap.size + 2) 23 y2.cells ∧ Blk W gp 47 ((⟨y1, y2, x3, s0.kind⟩ : P6).cells (.slice a4 n4 c4')) ∧ Blk W W6.heap.size 42 (c4 x4 x5 (x3 - 1) s0.kind 0 (.slice a6 n4 c6)) ∧ Ints .u8 W a6 n4 (Crossing.body ⟨y1, y2, x3, s0.kind⟩ (body6 s0 y1 y2 x0) x4 x5) ∧ Ints .u8 W a4 n4 (body6 s0 y1 y2 x0)) ⟨E7, KA7, KB7, KP7, KQ, r7, r8⟩ ?_
  clear E7 KA7 KB7 KP7 KQ r7 r8 st
  rintro W7 ⟨E7, KA, KB, KP, KQ, r6, r5⟩
  generalize W6.heap.size = gq at *
  have HC := Lib.hid (to6_ok ⟨y1, y2, x3, s0.kind⟩ n4 _ x4 x5 HX.out HBX.out (by show ¬ x3 < 3; have := HH.out; omega) a6 c6 W7 r6 hn6 hc6)
  dsimp only at HC
  unfold Six.v at HC
  have lq := KQ.p4
  have la : (Instr.loadAt 23 (.pointer (some ⟨w.heap.size + 1, 0, none⟩))).run Tryd.prog W7 = .ok (.agg #[.int .i64 y1.x0, .int .i64 y1.x1, .int .i64 y1.x2, .int .i64 y1.x3, .int .i64 y1.x4, .int .i64 y1.x5, .int .i64 y1.x6, .int .i64 y1.x7]) W7 := KA.six0
  have lb : (Instr.loadAt 23 (.pointer (some ⟨w.heap.size + 2, 0, none⟩))).run Tryd.prog W7 = .ok (.agg #[.int .i64 y2.x0, .int .i64 y2.x1, .int .i64 y2.x2, .int .i64 y2.x3, .int .i64 y2.x4, .int .i64 y2.x5, .int .i64 y2.x6, .int .i64 y2.x7]) W7 := KB.six0
  go_wp2_with ((apply load_by rfl _ _ rfl _ rfl); (focus (with_reducible assumption)))
  refine HC.out.mono ?_
  rintro e W8 ⟨a8, n8, c8, rfl, o8, q8⟩
  have E8 := E7.trans q8
  replace KP := KP.ext q8
  replace r5 := r5.ext q8
  obtain ⟨_, _, _, hv8, hn8, r8, _⟩ := o8.readn
  cases hv8
  have hp8 := KP.lt
  have KX := Blk.new W8 47 #[.int .i64 0, .int .i64 0, .int .i64 0, .int .i64 0, .int .i64 0, .int .i64 0, .int .i64 0, .int .i64 0, .int .i64 0, .int .i64 0, .int .i64 0, .int .i64 0, .int .i64 0, .int .i64 0, .int .i64 0, .int .i64 0, .int .i64 0, .int .i64 0, .slice none 0 0]
  have st := sto6l KX ⟨y1, y2, x3 - 1 - 1, s0.kind⟩ a8 n8 c8
  have KR := KX.row ((⟨y1, y2, x3 - 1 - 1, s0.kind⟩ : P6).cells (.slice a8 n8 c8))
  have E9 := (E8.alloc (.cells #[.int .i64 0, .int .i64 0, .int .i64 0, .int .i64 0, .int .i64 0, .int .i64 0, .int .i64 0, .int .i64 0, .int .i64 0, .int .i64 0, .int .i64 0, .int .i64 0, .int .i64 0, .int .i64 0, .int .i64 0, .int .i64 0, .int .i64 0, .int .i64 0, .slice none 0 0] 47)).row (k := W8.heap.size) E8.size ((⟨y1, y2, x3 - 1 - 1, s0.kind⟩ : P6).cells (.slice a8 n8 c8))
  have KP9 := (KP.alloc (.cells #[.int .i64 0, .int .i64 0, .int .i64 0, .int .i64 0, .int .i64 0, .int .i64 0, .int .i64 0, .int .i64 0, .int .i64 0, .int .i64 0, .int .i64 0, .int .i64 0, .int .i64 0, .int .i64 0, .int .i64 0, .int .i64 0, .int .i64 0, .int .i64 0, .slice none 0 0] 47)).farRow (k := W8.heap.size) (by omega) ((⟨y1, y2, x3 - 1 - 1, s0.kind⟩ : P6).cells (.slice a8 n8 c8))
  have r9 := Ints.keepRow (r8.ext ((Ext.refl W8).alloc (.cells #[.int .i64 0, .int .i64 0, .int .i64 0, .int .i64 0, .int .i64 0, .int .i64 0, .int .i64 0, .int .i64 0, .int .i64 0, .int .i64 0, .int .i64 0, .int .i64 0, .int .i64 0, .int .i64 0, .int .i64 0, .int .i64 0, .int .i64 0, .int .i64 0, .slice none 0 0] 47))) W8.heap.size ((⟨y1, y2, x3 - 1 - 1, s0.kind⟩ : P6).cells (.slice a8 n8 c8)) (fun h0 p hp => by
    obtain ⟨b, o, rfl, hb, _⟩ := r8.at h0
    cases hp
    show b ≠ _
    omega)
  have r10 := Ints.keepRow (r5.ext ((Ext.refl W8).alloc (.cells #[.int .i64 0, .int .i64 0, .int .i64 0, .int .i64 0, .int .i64 0, .int .i64 0, .int .i64 0, .int .i64 0, .int .i64 0, .int .i64 0, .int .i64 0, .int .i64 0, .int .i64 0, .int .i64 0, .int .i64 0, .int .i64 0, .int .i64 0, .int .i64 0, .slice none 0 0] 47))) W8.heap.size ((⟨y1, y2, x3 - 1 - 1, s0.kind⟩ : P6).cells (.slice a8 n8 c8)) (fun h0 p hp => by
    obtain ⟨b, o, rfl, hb, _⟩ := r5.at h0
    cases hp
    show b ≠ _
    omega)
  clear KX KA KB KP KQ E7 E8 q8 o8 r8 r6 r5 HC lq la lb
  go_upto_region 13 with ((apply store_by rfl _ _ _ rfl _ rfl); (focus (with_reducible assumption)); (focus rfl))
  refine at_worldE (fun W => Ext w W ∧ Blk W gp 47 ((⟨y1, y2, x3, s0.kind⟩ : P6).cells (.slice a4 n4 c4')) ∧ Blk W W8.heap.size 47 ((⟨y1, y2, x3 - 1 - 1, s0.kind⟩ : P6).cells (.slice a8 n8 c8)) ∧ Ints .u8 W a8 n8 (body6 s0 y1 y2 x0) ∧ Ints .u8 W a4 n4 (body6 s0 y1 y2 x0)) ⟨E9, KP9, KR, r9, r10⟩ ?_
  clear E9 KP9 KR r9 r10 st
  rintro W9 ⟨E9, KP, KR, r9, r10⟩
  have hgr : w.heap.size ≤ W8.heap.size := by omega
  generalize W8.heap.size = gr at *
  obtain ⟨hop0, hop1⟩ := HSO.out.hop
  have c16 : W9.cell? ⟨gr, 16, none⟩ = some (.int .i64 (x3 - 1 - 1)) := KR.p6nums.1
  have f16 := KR.free 16
  have ew : IntKind.i64.wrap (x3 - 1 - 1 + 2) = x3 := by rw [show x3 - 1 - 1 + 2 = x3 by omega]; exact IntWalk.i64_in _ (by omega)
  have KR2 : Blk (W9.setCell ⟨gr, 16, none⟩ (.int .i64 x3)) gr 47 ((⟨y1, y2, x3, s0.kind⟩ : P6).cells (.slice a8 n8 c8)) := KR.put 16 (.int .i64 x3)
  have KP2 := KP.far (p := ⟨gr, 16, none⟩) (by show gp ≠ gr; omega) (.int .i64 x3)
  have E10 := E9.set (p := ⟨gr, 16, none⟩) hgr (.int .i64 x3)
  have hr0 : ∀ {a : Option Addr} {n : Nat} {xs : List Int}, Ints .u8 W9 a n xs → Ints .u8 (W9.setCell ⟨gr, 16, none⟩ (.int .i64 x3)) a n xs := fun {a n xs} r => by
    by_cases hn : 0 < n
    · have ho := Ints.off r KR (fun v hv x => by simp [P6.cells] at hv; rcases hv with rfl | rfl | rfl | rfl | rfl | rfl | rfl | rfl | rfl | rfl | rfl | rfl | rfl | rfl | rfl | rfl | rfl | rfl | rfl <;> simp) hn
      obtain ⟨b, off, rfl, hb, hc⟩ := r.at hn
      exact ⟨r.1, .inr ⟨b, off, rfl, fun i hi => (cell_far (ho _ rfl) _).trans (hc i hi)⟩⟩
    · obtain rfl : n = 0 := by omega
      obtain rfl : xs = [] := List.length_eq_zero_iff.1 r.len
      exact Ints.nil
  have HPS := Lib.hid (pack6s_yes ⟨y1, y2, x3, s0.kind⟩ a8 a4 n8 c8 n4 c4' _ _ (hr0 r9) (hr0 r10))
  have l1 := KR2.p6
  have l2 := KP2.p6
  have HE := Lib.hid E10
  clear KP KR r9 r10 hr0 KR2 KP2 E9 E10
  go_wp2_with ((apply load_by rfl _ _ rfl _ rfl); (focus (with_reducible assumption)))
  refine HPS.out.mono ?_
  rintro e W10 ⟨rfl, q10⟩
  have HE2 := Lib.hid (HE.out.trans q10)
  go_wp2_with fail
  go_returns
  exact ⟨rfl, HE2.out⟩
set_option maxRecDepth 100000 in
theorem lifted (os : Os) (started : os.Started) (H : Type) (enc : TypeId × Value → H) :
    ReturnsInHanded {} Tryd.checked os 4 .any (Rows.topTwiceSpec.pre6 enc Tryd.prog Tryd.f4 Rows.topTwiceRow.domain false) (Rows.topTwiceSpec.post enc Tryd.prog Tryd.f4 false true false false) := by
  refine returnsInHanded_of_change (C := Tryd.checked) own started (by kernel_rfl) Tryd.func4
    (ChangeSpec.witness6 (enc := enc) (C := Tryd.checked) false ⟨#[], #[.agg #[.int .i64 0, .int .i64 0, .int .i64 0, .int .i64 0, .int .i64 0, .int .i64 0, .int .i64 0, .slice none 0 0], .agg #[.int .i64 0, .int .i64 0, .int .i64 0, .int .i64 0, .int .i64 0, .int .i64 0, .int .i64 0, .int .i64 0], .agg #[.int .i64 0, .int .i64 0, .int .i64 0, .int .i64 0, .int .i64 0, .int .i64 0, .int .i64 0, .int .i64 0], .int .i64 0, .int .i64 0, .int .i64 0], []⟩ 8 (by kernel_rfl) (by kernel_rfl) (by kernel_rfl) (by kernel_rfl)) ?_
  intro W base args ds gs before hval0 hW hcnd _
  have hval : ∀ (j : Nat) t v, Tryd.f4.params[j]? = some t → args[j]? = some v → Value.okWide Tryd.prog W .any base t v := hval0
  have hW' := hW
  obtain ⟨p, q, hA0, hV, rfl, hfz, hnd⟩ := hW
  have hA : DataW.TrodAll enc Tryd.prog W 0 (fun _ => true) true Tryd.f4.params.toList args.toList ds p := hA0
  rw [Tryd.params4] at hA hval
  obtain ⟨v0, vs0, d0, ds0, p0, q0, hargs, rfl, rfl, h0, r0⟩ := trodAll_cons hA
  obtain ⟨v1, vs1, d1, ds1, p1, q1, rfl, rfl, rfl, h1, r1⟩ := trodAll_cons r0
  obtain ⟨v2, vs2, d2, ds2, p2, q2, rfl, rfl, rfl, h2, r2⟩ := trodAll_cons r1
  obtain ⟨v3, vs3, d3, ds3, p3, q3, rfl, rfl, rfl, h3, r3⟩ := trodAll_cons r2
  obtain ⟨v4, vs4, d4, ds4, p4, q4, rfl, rfl, rfl, h4, r4⟩ := trodAll_cons r3
  obtain ⟨v5, vs5, d5, ds5, p5, q5, rfl, rfl, rfl, h5, r5⟩ := trodAll_cons r4
  obtain ⟨rfl, rfl, rfl⟩ := trodAll_nil r5
  obtain rfl : args = #[v0, v1, v2, v3, v4, v5] := by cases args; simp_all
  obtain ⟨rfl, rfl⟩ := trodVars_none hV
  have lt0 : ∀ x ∈ p0, x.block < W.heap.size := by obtain ⟨m, hm⟩ := h0; exact DataW.trod_lt m _ _ _ hm
  have k0 := h0
  obtain ⟨s0, a0, n0, c0, x0, rfl, w0⟩ := open_seg (hval 0 38 v0 rfl rfl) h0
  have lt1 : ∀ x ∈ p1, x.block < W.heap.size := by obtain ⟨m, hm⟩ := h1; exact DataW.trod_lt m _ _ _ hm
  have k1 := h1
  obtain ⟨s1, rfl, w1⟩ := open_six (hval 1 23 v1 rfl rfl) h1
  have lt2 : ∀ x ∈ p2, x.block < W.heap.size := by obtain ⟨m, hm⟩ := h2; exact DataW.trod_lt m _ _ _ hm
  have k2 := h2
  obtain ⟨s2, rfl, w2⟩ := open_six (hval 2 23 v2 rfl rfl) h2
  have lt3 : ∀ x ∈ p3, x.block < W.heap.size := by obtain ⟨m, hm⟩ := h3; exact DataW.trod_lt m _ _ _ hm
  have k3 := h3
  obtain ⟨x3, rfl, _, _, w3'⟩ := open_int Tryd.underlying3 (hval 3 3 v3 rfl rfl) h3
  have w3 : IsInt x3 := wf_i64 w3'
  have lt4 : ∀ x ∈ p4, x.block < W.heap.size := by obtain ⟨m, hm⟩ := h4; exact DataW.trod_lt m _ _ _ hm
  have k4 := h4
  obtain ⟨x4, rfl, _, _, w4'⟩ := open_int Tryd.underlying3 (hval 4 3 v4 rfl rfl) h4
  have w4 : IsInt x4 := wf_i64 w4'
  have lt5 : ∀ x ∈ p5, x.block < W.heap.size := by obtain ⟨m, hm⟩ := h5; exact DataW.trod_lt m _ _ _ hm
  have k5 := h5
  obtain ⟨x5, rfl, _, _, w5'⟩ := open_int Tryd.underlying3 (hval 5 3 v5 rfl rfl) h5
  have w5 : IsInt x5 := wf_i64 w5'
  clear hA0 hval0
  refine (walk s0 a0 n0 c0 x0 s1 s2 x3 x4 x5 W w0 w1 w2 w3 w4 w5).mono fun e W' ⟨he, bel⟩ => ?_
  subst he
  exact ⟨_, rfl, _, _, _, [], _, [], hW', trodAll_mk1 (shut_bool Tryd.underlying4 _), (trodAll_cons_mk (Below.trod laidOut (by kernel_rfl) (of_decide_eq_true (by kernel_rfl)) k0 bel lt0) (trodAll_cons_mk (Below.trod laidOut (by kernel_rfl) (of_decide_eq_true (by kernel_rfl)) k1 bel lt1) (trodAll_cons_mk (Below.trod laidOut (by kernel_rfl) (of_decide_eq_true (by kernel_rfl)) k2 bel lt2) (trodAll_cons_mk (Below.trod laidOut (by kernel_rfl) (of_decide_eq_true (by kernel_rfl)) k3 bel lt3) (trodAll_cons_mk (Below.trod laidOut (by kernel_rfl) (of_decide_eq_true (by kernel_rfl)) k4 bel lt4) (trodAll_cons_mk (Below.trod laidOut (by kernel_rfl) (of_decide_eq_true (by kernel_rfl)) k5 bel lt5) trodAll_mk0)))))), rfl, bel.frame _, fun h => by cases h⟩

theorem over : Rows.topTwiceRow.holds Tryd.pinned (OpenSpec.ofChange Rows.topTwiceSpec) :=
  OpenClaim.holds_of_wide 4 Tryd.f4 rfl rfl rfl rfl rfl rfl rfl ⟨rfl, rfl, rfl, rfl, rfl⟩ rfl rfl rfl rfl rfl (by kernel_rfl) Tryd.func4 (by kernel_rfl)
    (of_decide_eq_true (by kernel_rfl)) (by unfold Func.isWrapper; first | (rw [if_pos (by decide +kernel)]; kernel_rfl) | (rw [if_neg (by decide +kernel)]; exact ⟨rfl, rfl⟩))
    (fun os started H enc _ => lifted os started H enc)

/-- THE STATEMENT. -/
theorem proved : Rows.TopTwiceSaid := over
#print axioms proved
end Go.Proofs.YtbjogkpepfgegaaDoor.topTwice
