/- Lemmas of this seat, bound together: Over6 Ref6 Ip4l Ref4p Ref4d Ref6d Ip4s. Conditions: as each lemma states them. -/
import Derived.Test.YtbjogkpepfgegaaGreatDoorK16
import Derived.Test.YtbjogkpepfgegaaGreatDoorK02
import Derived.Deep.DeepCutAuto
import Derived.Deep.RegionLaw
import Derived.Test.YtbjogkpepfgegaaGreatDoorK03
import Derived.Test.YtbjogkpepfgegaaGreatDoorK04
import Derived.BigQuiet
import Derived.Test.YtbjogkpepfgegaaGreatDoorK15
import Derived.Deep.RegionHeld3
import Derived.Laws.Tables
import Derived.Test.YtbjogkpepfgegaaGreatDoorK13
import Derived.Test.YtbjogkpepfgegaaGreatDoorK06
namespace Go.Proofs.YtbjogkpepfgegaaGreatDoor
open Go.RowKit
def ok6 (s d : Six) (k n : Int) : Bool := okS s && okS d && okO k n
def val6 (s d : Six) (k n : Int) : Int := Pl.fold (Pl.raw 0 (Pl.two s.l ++ Pl.two d.l ++ Pl.two [k, n]))
set_option maxRecDepth 100000 in
set_option maxHeartbeats 2000000 in
theorem over6_any (s d : Six) (k n : Int) (w : World) :
    Calls Tryz.prog 24 #[s.v, d.v, .int .i64 k, .int .i64 n] w fun e w' => e = .returned (.tuple #[.int .i64 (bO (ok6 s d k n) (val6 s d k n)), erv (eO (ok6 s d k n))]) ∧ Ext w w' := by
  have KS := (Blk.new w 23 s.cells).alloc (.cells d.cells 23)
  have KD := Blk.new (w.alloc (.cells s.cells 23)) 23 d.cells
  simp only [World.size_alloc] at KD
  have E0 := ((Ext.refl w).alloc (.cells s.cells 23)).alloc (.cells d.cells 23)
  have ls := KS.six0
  unfold Six.v
  cases hs : okS s
  case false =>
    have ho : ok6 s d k n = false := by unfold ok6; rw [hs]; rfl
    rw [ho]
    have HS := Lib.hid hs
    clear ho hs
    go_enter Tryz.func24, Tryz.ntmps24
    go_wp2_with ((apply load_by rfl _ _ rfl _ rfl); (focus (with_reducible assumption)))
    refine (check6_no s _ HS.out).mono ?_
    rintro e W1 ⟨rfl, q1⟩
    unfold errv
    go_wp2_with fail
    go_ret2
    exact ⟨rfl, E0.trans q1⟩
  cases hd : okS d
  case false =>
    have ho : ok6 s d k n = false := by unfold ok6; rw [hs, hd]; rfl
    rw [ho]
    have HS := Lib.hid hs
    have HD := Lib.hid hd
    clear ho hs hd
    go_enter Tryz.func24, Tryz.ntmps24
    go_wp2_with ((apply load_by rfl _ _ rfl _ rfl); (focus (with_reducible assumption)))
    refine (check6_yes s _ HS.out).mono ?_
    rintro e W1 ⟨rfl, q1⟩
    have ld := (KD.ext q1).six0
    clear ls
    go_wp2_with ((apply load_by rfl _ _ rfl _ rfl); (focus (with_reducible assumption)))
    refine (check6_no d _ HD.out).mono ?_
    rintro e W2 ⟨rfl, q2⟩
    unfold errv
    go_wp2_with fail
    go_ret2
    exact ⟨rfl, (E0.trans q1).trans q2⟩
  have ho : ok6 s d k n = okO k n := by unfold ok6; rw [hs, hd]; rfl
  rw [ho]
  have HS := Lib.hid hs
  have HD := Lib.hid hd
  clear ho hs hd
  go_enter Tryz.func24, Tryz.ntmps24
  go_wp2_with ((apply load_by rfl _ _ rfl _ rfl); (focus (with_reducible assumption)))
  refine (check6_yes s _ HS.out).mono ?_
  rintro e W1 ⟨rfl, q1⟩
  have ld := (KD.ext q1).six0
  clear ls
  go_wp2_with ((apply load_by rfl _ _ rfl _ rfl); (focus (with_reducible assumption)))
  refine (check6_yes d _ HD.out).mono ?_
  rintro e W2 ⟨rfl, q2⟩
  have E2 := (E0.trans q1).trans q2
  have KS2 := (KS.ext q1).ext q2
  have KD2 := (KD.ext q1).ext q2
  clear ld E0 q1 q2 KS KD
  go_upto_region 3 with (fail)
  have fS := KS2.cells
  have fD := KD2.cells
  unfold Six.cells at fS fD
  have hlen : (Pl.two s.l).length = 16 := by rw [Pl.two_length]; rfl
  have hlen2 : (Pl.two d.l).length = 16 := by rw [Pl.two_length]; rfl
  have HL := Lib.hid hlen
  have HL2 := Lib.hid hlen2
  clear hlen hlen2
  go_region_law (first
    | (go_simp; go_at_call 55; (have h3 := E3; clear h3); (with_reducible refine (raw6_x s _ HS.out).mono ?_); rintro e W4 ⟨v4, rfl, o4, q4⟩; obtain ⟨a4, n4, c4, rfl, l4, r4⟩ := o4.read; have E4 : Ext W2 W4 := (by first | exact Ext.trans E3 q4 | exact Ext.trans (Ext.drew E3) q4); have rs : Ints .u8 W4 a4 n4 (Pl.two s.l) := r4; have rd : Ints .u8 W4 a3 n3 (Pl.two d.l) := r3.ext (by first | exact q4 | exact Ext.trans (Ext.drew (Ext.refl _)) q4); have fS4 := (KS2.ext E4).cells; have fD4 := (KD2.ext E4).cells; unfold Six.cells at fS4 fD4)
    | (go_simp; go_at_call 55; (have h3 := E3; clear h3); (with_reducible refine (raw6_x d _ HD.out).mono ?_); rintro e W4 ⟨v4, rfl, o4, q4⟩; obtain ⟨a4, n4, c4, rfl, l4, r4⟩ := o4.read; have E4 : Ext W2 W4 := (by first | exact Ext.trans E3 q4 | exact Ext.trans (Ext.drew E3) q4); have rd : Ints .u8 W4 a4 n4 (Pl.two d.l) := r4; have rs : Ints .u8 W4 a3 n3 (Pl.two s.l) := r3.ext (by first | exact q4 | exact Ext.trans (Ext.drew (Ext.refl _)) q4); have fS4 := (KS2.ext E4).cells; have fD4 := (KD2.ext E4).cells; unfold Six.cells at fS4 fD4)
    | (go_simp; go_at_call 55; (with_reducible refine (raw6_x s _ HS.out).mono ?_); rintro e W3 ⟨v3, rfl, o3, q3⟩; obtain ⟨a3, n3, c3, rfl, l3, r3⟩ := o3.read; have E3 : Ext W2 W3 := (by first | exact q3 | exact Ext.trans (Ext.drew (Ext.refl _)) q3); have fS3 := (KS2.ext E3).cells; have fD3 := (KD2.ext E3).cells; unfold Six.cells at fS3 fD3)
    | (go_simp; go_at_call 55; (with_reducible refine (raw6_x d _ HD.out).mono ?_); rintro e W3 ⟨v3, rfl, o3, q3⟩; obtain ⟨a3, n3, c3, rfl, l3, r3⟩ := o3.read; have E3 : Ext W2 W3 := (by first | exact q3 | exact Ext.trans (Ext.drew (Ext.refl _)) q3); have fS3 := (KS2.ext E3).cells; have fD3 := (KD2.ext E3).cells; unfold Six.cells at fS3 fD3)
    | (go_simp; go_at_call 54; refine (over_any _ _ _ (Pl.two s.l) _ _ _ (Pl.two d.l) k n _ (by first | exact rs | exact rs.ext (Ext.drew (Ext.refl _))) (by first | exact rd | exact rd.ext (Ext.drew (Ext.refl _))) (Six.isB HS.out) (Six.isB HD.out) (by have h1 := rs.len; have h2 := rd.len; have h3 := HL.out; have h4 := HL2.out; omega)).mono ?_; rintro e W5 ⟨rfl, q5⟩; have E5 : Ext w W5 := E2.trans (by first | exact Ext.trans E4 q5 | exact Ext.trans (Ext.drew E4) q5)))
  all_goals
    clear fS fD fS3 fD3 fS4 fD4
    go_wp2_with fail
    go_ret2
    refine ⟨?_, E5⟩
    unfold val6
    rw [List.append_assoc]
    rfl
end Go.Proofs.YtbjogkpepfgegaaGreatDoor
namespace Go.Proofs.YtbjogkpepfgegaaGreatDoor
open Go.RowKit

end Go.Proofs.YtbjogkpepfgegaaGreatDoor
namespace Go.Proofs.YtbjogkpepfgegaaGreatDoor
open Go.RowKit

namespace Pl
/-- Are bytes a packet? -/
def IsPk4 (xs : List Int) : Prop := ∃ s d t k i b, Ok4 s d t k i ∧ IsB b ∧ b.length ≤ 320 ∧ xs = enc4 s d t k i b

theorem raw_head4 (s d t k i n c : Int) : raw 0 (head4 s d t k i n c) = raw 0 (head4 s d t k i n 0) + c := by
  simp [head4, first4, four, raw]
  omega
theorem take_enc4 (s d t k i : Int) (b : List Int) : (enc4 s d t k i b).take 20 = head4 s d t k i b.length (sum4 s d t k i b.length) := by
  unfold enc4
  rw [List.take_append_of_le_length (by rw [head4_length]; omega)]
  exact List.take_of_length_le (by rw [head4_length]; omega)
theorem sum_enc4 {s d t k i : Int} {b : List Int} (h : Ok4 s d t k i) (hn : b.length ≤ 320) : fold (raw 0 ((enc4 s d t k i b).take 20)) = 65535 := by
  rw [take_enc4, raw_head4]
  unfold sum4
  exact fold_check (raw_bd (head4_isB h (by omega) (by omega)) 0).1
theorem drop_enc4 (s d t k i : Int) (b : List Int) : (enc4 s d t k i b).drop 20 = b := by
  unfold enc4
  rw [List.drop_append_of_le_length (by rw [head4_length]; omega), List.drop_of_length_le (by rw [head4_length]; omega)]
  rfl
theorem fields_enc4 {s d t k i : Int} {b : List Int} (h : Ok4 s d t k i) :
    at4 (enc4 s d t k i b) 12 = s ∧ at4 (enc4 s d t k i b) 16 = d ∧ (enc4 s d t k i b).getD 8 0 = t ∧ (enc4 s d t k i b).getD 9 0 = k ∧ at2 (enc4 s d t k i b) 4 = i := by
  obtain ⟨⟨s0, s1⟩, ⟨d0, d1⟩, ⟨t0, t1⟩, ⟨k0, k1⟩, ⟨i0, i1⟩⟩ := h
  unfold enc4 head4 first4 four at4 at2
  simp only [List.cons_append, List.nil_append, List.getD_cons_succ, List.getD_cons_zero]
  refine ⟨by omega, by omega, trivial, trivial, by omega⟩
theorem enc4_inj {s d t k i s' d' t' k' i' : Int} {b b' : List Int} (h : Ok4 s d t k i) (h' : Ok4 s' d' t' k' i') (he : enc4 s d t k i b = enc4 s' d' t' k' i' b') : s = s' ∧ d = d' ∧ t = t' ∧ k = k' ∧ i = i' ∧ b = b' := by
  obtain ⟨e0, e1, e2, e3, e4⟩ := fields_enc4 (b := b) h
  obtain ⟨f0, f1, f2, f3, f4⟩ := fields_enc4 (b := b') h'
  have e5 := drop_enc4 s d t k i b
  rw [he] at e0 e1 e2 e3 e4 e5
  exact ⟨e0.symm.trans f0, e1.symm.trans f1, e2.symm.trans f2, e3.symm.trans f3, e4.symm.trans f4, e5.symm.trans (drop_enc4 ..)⟩
/-- The packet that bytes are is that of their own numbers. -/
theorem pk4_iff {xs : List Int} (hb : IsB xs) (hn : xs.length ≤ 340) : IsPk4 xs ↔ enc4 (at4 xs 12) (at4 xs 16) (xs.getD 8 0) (xs.getD 9 0) (at2 xs 4) (xs.drop 20) = xs := by
  constructor
  · rintro ⟨s, d, t, k, i, b, hok, hbb, hl, rfl⟩
    obtain ⟨e0, e1, e2, e3, e4⟩ := fields_enc4 (b := b) hok
    rw [e0, e1, e2, e3, e4, drop_enc4]
  · intro h
    exact ⟨_, _, _, _, _, _, ok4_of hb, hb.drop 20, by rw [List.length_drop]; omega, h.symm⟩
theorem pk4_len {xs : List Int} (h : IsPk4 xs) : 20 ≤ xs.length ∧ xs.length ≤ 340 := by
  obtain ⟨s, d, t, k, i, b, _, _, hl, rfl⟩ := h
  rw [enc4_length]
  omega
theorem pk4_isB {xs : List Int} (h : IsPk4 xs) : IsB xs := by
  obtain ⟨s, d, t, k, i, b, hok, hb, hl, rfl⟩ := h
  exact enc4_isB hok hb hl
theorem pk4_sum {xs : List Int} (h : IsPk4 xs) : fold (raw 0 (xs.take 20)) = 65535 := by
  obtain ⟨s, d, t, k, i, b, hok, _, hl, rfl⟩ := h
  exact sum_enc4 hok hl
/-- With a byte of the head turned by a power of two it is no packet. -/
theorem pk4_turn {xs : List Int} (h : IsPk4 xs) (j : Nat) (hj : j < 20) (y p : Int) (hp : 1 ≤ p ∧ p ≤ 128) (hy : y = xs.getD j 0 + p ∨ y = xs.getD j 0 - p) : ¬ IsPk4 (xs.set j y) := by
  intro h2
  have e1 := pk4_sum h
  have e2 := pk4_sum h2
  have hl := (pk4_len h).1
  rw [List.take_set] at e2
  rw [raw_set _ _ _ _ (by rw [List.length_take]; omega)] at e2
  have hg : (xs.take 20).getD j 0 = xs.getD j 0 := by simp [List.getD, hj]
  rw [hg] at e2
  generalize raw 0 (xs.take 20) = R at e1 e2
  generalize xs.getD j 0 = x at *
  unfold fold at e1 e2
  split at e1
  · omega
  · split at e2
    · omega
    · split at e2 <;> omega
end Pl

/-- Decode of whatever comes in. -/
theorem decode4_any (a : Option Addr) (n c : Nat) (xs : List Int) (w : World) (hr : Ints .u8 w a n xs) (hb : Pl.IsB xs) (hnc : n ≤ c) :
    Calls Tryz.prog 35 #[.slice a n c] w fun e w' =>
      ((∃ s d t k i b av nv cv, Pl.Ok4 s d t k i ∧ Pl.IsB b ∧ b.length ≤ 320 ∧ xs = Pl.enc4 s d t k i b ∧ e = .returned (.tuple #[pk4 s d t k i (.slice av nv cv), .nilIface]) ∧ Own w' w.heap.size (.slice av nv cv) b) ∨
        (¬ Pl.IsPk4 xs ∧ ∃ q, e = .returned (.tuple #[pk4 0 0 0 0 0 (.slice none 0 0), errv q]))) ∧ Below w.heap.size w w' := by
  by_cases h0 : n < 20 ∨ 340 < n
  · refine (decode4_short a n c w h0).mono fun e w' ⟨he, hw⟩ => ⟨.inr ⟨fun h => ?_, 5, he⟩, hw⟩
    have := Pl.pk4_len h
    have := hr.len
    omega
  · obtain ⟨b, off, rfl, hbl, _⟩ := hr.at (by omega)
    have hl := hr.len
    refine (decode4_core b off n c xs w _ _ _ _ _ _ hr hbl hnc (by omega) (by omega) (Pl.ok4_of hb) rfl rfl rfl rfl rfl rfl hb).mono fun e w' h => ?_
    obtain ⟨h1, h2, h3, h4⟩ := h
    have hiff := Pl.pk4_iff hb (by omega)
    refine ⟨?_, h4⟩
    by_cases hE : Pl.enc4 (Pl.at4 xs 12) (Pl.at4 xs 16) (xs.getD 8 0) (xs.getD 9 0) (Pl.at2 xs 4) (xs.drop 20) = xs
    · obtain ⟨v, he, ho⟩ := h1 hE
      obtain ⟨av, nv, cv, rfl, _, _⟩ := ho.read
      exact .inl ⟨_, _, _, _, _, _, av, nv, cv, Pl.ok4_of hb, hb.drop 20, by rw [List.length_drop]; omega, hE.symm, he, ho⟩
    · refine .inr ⟨fun h => hE (hiff.1 h), ?_⟩
      by_cases hP : Pl.patch4 (Pl.enc4 (Pl.at4 xs 12) (Pl.at4 xs 16) (xs.getD 8 0) (xs.getD 9 0) (Pl.at2 xs 4) (xs.drop 20)) xs = xs
      · exact ⟨6, h2 hE hP⟩
      · exact ⟨5, h3 hE hP⟩

/-- Decode of a packet's bytes. -/
theorem decode4_enc (a : Option Addr) (n c : Nat) (s d t k i : Int) (b : List Int) (w : World) (hr : Ints .u8 w a n (Pl.enc4 s d t k i b)) (h : Pl.Ok4 s d t k i) (hb : Pl.IsB b) (hl : b.length ≤ 320) (hnc : n ≤ c) :
    Calls Tryz.prog 35 #[.slice a n c] w fun e w' => ∃ av nv cv, e = .returned (.tuple #[pk4 s d t k i (.slice av nv cv), .nilIface]) ∧ Own w' w.heap.size (.slice av nv cv) b ∧ Below w.heap.size w w' := by
  refine (decode4_any a n c _ w hr (Pl.enc4_isB h hb hl) hnc).mono fun e w' h2 => ?_
  obtain ⟨⟨s', d', t', k', i', b', av, nv, cv, h', _, _, he, hr', ho⟩ | ⟨hn, _⟩, hw⟩ := h2
  · obtain ⟨rfl, rfl, rfl, rfl, rfl, rfl⟩ := Pl.enc4_inj h h' he
    exact ⟨av, nv, cv, hr', ho, hw⟩
  · exact absurd ⟨_, _, _, _, _, _, h, hb, hl, rfl⟩ hn

theorem encode4_bad (s d t k i : Int) (a : Option Addr) (n c : Nat) (w : World) (h : ¬ (Pl.Ok4 s d t k i ∧ n ≤ 320)) :
    Calls Tryz.prog 34 #[pk4 s d t k i (.slice a n c)] w fun e w' => (∃ q, e = .returned (.tuple #[.slice none 0 0, errv q])) ∧ Below w.heap.size w w' := by
  have key : ∀ w, Calls Tryz.prog 74 #[pk4 s d t k i (.slice a n c)] w fun e w' => (∃ q, e = .returned (errv q)) ∧ Below w.heap.size w w' := fun w => by
    by_cases hok : Pl.Ok4 s d t k i
    · exact (check4_full s d t k i a n c w hok (by have : ¬ n ≤ 320 := fun hn => h ⟨hok, hn⟩; omega)).mono fun e w' ⟨he, hw⟩ => ⟨⟨3, he⟩, hw⟩
    · exact (check4_range s d t k i a n c w hok).mono fun e w' ⟨he, hw⟩ => ⟨⟨1, he⟩, hw⟩
  clear h
  have KEY := Lib.hid key
  clear key
  unfold pk4
  go_enter Tryz.func34, Tryz.ntmps34
  go_wp2_with fail
  refine (KEY.out _).mono ?_
  rintro e W2 ⟨⟨q, rfl⟩, b2⟩
  unfold errv
  go_wp2_with fail
  go_ret2
  exact ⟨⟨q, rfl⟩, by
    have : Below w.heap.size w (w.alloc (.cells #[.int .i64 s, .int .i64 d, .int .i64 t, .int .i64 k, .int .i64 i, .slice a n c] 44)) := by go_grown
    exact this.trans (b2.mono this.size)⟩

end Go.Proofs.YtbjogkpepfgegaaGreatDoor
namespace Go.Proofs.YtbjogkpepfgegaaGreatDoor
open Go.RowKit
def ok4b (s d t k i : Int) : Bool := w32 s && w32 d && w8 t && w8 k && w16 i
theorem ok4b_yes {s d t k i : Int} (h : ok4b s d t k i = true) : Pl.Ok4 s d t k i := by
  unfold ok4b at h
  simp only [Bool.and_eq_true] at h
  exact ⟨w32_yes h.1.1.1.1, w32_yes h.1.1.1.2, w8_yes h.1.1.2, w8_yes h.1.2, w16_yes h.2⟩
theorem ok4b_no {s d t k i : Int} (h : ok4b s d t k i = false) : ¬ Pl.Ok4 s d t k i := by
  rintro ⟨⟨a0, a1⟩, ⟨b0, b1⟩, ⟨c0, c1⟩, ⟨d0, d1⟩, ⟨e0, e1⟩⟩
  have : ok4b s d t k i = true := by
    unfold ok4b w32 w8 w16
    simp only [Bool.and_eq_true, decide_eq_true_eq]
    omega
  rw [this] at h
  cases h
/-- What is wrong with a packet of n bytes. -/
def fault4 (s d t k i : Int) (n : Nat) : Int := if ok4b s d t k i = true then (if n ≤ 320 then 0 else 3) else 1

end Go.Proofs.YtbjogkpepfgegaaGreatDoor
namespace Go.Proofs.YtbjogkpepfgegaaGreatDoor
open Go.RowKit
theorem Ext.drawn4 {a b w : World} (h : Ext a b) (e : ∃ q, w = b.drewN q) : Ext a w ∧ Ext b w := by
  obtain ⟨q, rfl⟩ := e
  exact ⟨h.drewN q, (Ext.refl b).drewN q⟩
theorem Ext.drewN' {a b : World} (h : Ext a b) (q : Nat) : Ext a (b.drewN q) := h.drewN q
theorem Ext.drew' {a b : World} (h : Ext a b) : Ext a b.drew := h.drew
theorem Ext.alloc' {a b : World} (h : Ext a b) (o : Obj) : Ext a (b.alloc o) := h.alloc o
theorem drawn_size {b w : World} (e : ∃ q, w = b.drewN q) : w.heap.size = b.heap.size := by
  obtain ⟨q, rfl⟩ := e
  rfl
/-- At a store whose run is known, in a region. -/
theorem wp_store_by4 {P : Program} {o : Oper} {a : Act} {w : World} {K : Act → World → Prop} {Q : Exit → Act → World → Prop} (ty : TypeId) (x y : Operand) (ho : o.op = .store ty x y) (p : Addr) (hx : a.eval x = .pointer (some p)) {v : Value} {w' : World}
    (h : (Instr.storeAt ty (.pointer (some p)) v).run P w = .ok () w') (hy : a.eval y = v) (k : K (a.put o.dst undef) w') : Oper.wp P o a w K Q := by
  unfold Oper.wp execOp
  simp only [ho, hx, hy, Sem.run_bind, h, Result.andThen_ok, Sem.run_pure]
  exact k
theorem at_worldF {P : Program} {c : Code} {Q : Exit → Act → World → Prop} {a : Act} {W : World} (X : World → Prop) (h : X W) (k : ∀ W', X W' → c.wp P Q a W') : c.wp P Q a W := k W h
namespace Pl
/-- Have bytes a packet's shape? -/
def Shape4 (xs : List Int) : Prop := (20 ≤ xs.length ∧ xs.length ≤ 340) ∧ at2 xs 0 = 17664 ∧ at2 xs 2 = xs.length ∧ at2 xs 6 = 16384
end Pl
abbrev c4 (s d t k i : Int) (v : Value) : Array Value := #[.int .i64 s, .int .i64 d, .int .i64 t, .int .i64 k, .int .i64 i, v]
theorem Tryz.sizeP4 : (Tryz.prog.info? 44).map (·.size) = some 6 := by kernel_rfl
theorem Blk.p4 {w : World} {g : Nat} {t : TypeId} {s d tt k i : Int} {v : Value} (h : Blk w g t (c4 s d tt k i v)) : (Instr.loadAt 44 (.pointer (some ⟨g, 0, none⟩))).run Tryz.prog w = .ok (.agg (c4 s d tt k i v)) w := by
  have := run_loadAt_mid (P := Tryz.prog) w g 0 44 (c4 s d tt k i v).toList _ (fun j v hv => by
    rw [Array.getElem?_toList] at hv
    rw [h.cells, Nat.zero_add]; exact hv) Tryz.underlying44 rfl Tryz.sizeP4
  rw [Array.toArray_toList] at this
  exact this
theorem sto4 {w : World} {R : Nat} {ty : TypeId} {x0 x1 x2 x3 x4 : Int} {v0 : Value} (kb : Blk w R ty (c4 x0 x1 x2 x3 x4 v0)) (s d t k i : Int) (a : Option Addr) (n c : Nat) :
    (Instr.storeAt 44 (.pointer (some ⟨R, 0, none⟩)) (.agg #[.int .i64 s, .int .i64 d, .int .i64 t, .int .i64 k, .int .i64 i, .slice a n c])).run Tryz.prog w = .ok () (w.setRow R (c4 s d t k i (.slice a n c))) :=
  kb.store rfl Tryz.sizeP4 (by simp [Value.oneCell'])

end Go.Proofs.YtbjogkpepfgegaaGreatDoor
namespace Go.Proofs.YtbjogkpepfgegaaGreatDoor
open Go.RowKit
theorem Ext.drawn {a b w : World} (h : Ext a b) (e : ∃ q, w = b.drewN q) : Ext a w ∧ Ext b w := by
  obtain ⟨q, rfl⟩ := e
  exact ⟨h.drewN q, (Ext.refl b).drewN q⟩
theorem sto6l {w : World} {R : Nat} (k : Blk w R 61 #[.int .i64 0, .int .i64 0, .int .i64 0, .int .i64 0, .int .i64 0, .int .i64 0, .int .i64 0, .int .i64 0, .int .i64 0, .int .i64 0, .int .i64 0, .int .i64 0, .int .i64 0, .int .i64 0, .int .i64 0, .int .i64 0, .int .i64 0, .int .i64 0, .slice none 0 0]) (p : P6) (a : Option Addr) (n c : Nat) :
    (Instr.storeAt 61 (.pointer (some ⟨R, 0, none⟩)) (.agg (p.cells (.slice a n c)))).run Tryz.prog w = .ok () (w.setRow R (p.cells (.slice a n c))) := k.store rfl Tryz.sizeP6 (p.one a n c)

/-- What Decoded6 gives of bytes that are no packet. -/
def RBad6 (e : Ending) : Prop := e = .returned (.tuple #[.agg #[.int .i64 0, .int .i64 0, .int .i64 0, .int .i64 0, .int .i64 0, .int .i64 0, .int .i64 0, .int .i64 0, .int .i64 0, .int .i64 0, .int .i64 0, .int .i64 0, .int .i64 0, .int .i64 0, .int .i64 0, .int .i64 0, .int .i64 0, .int .i64 0, .slice none 0 0], .int .i64 5])

end Go.Proofs.YtbjogkpepfgegaaGreatDoor
namespace Go.Proofs.YtbjogkpepfgegaaGreatDoor
open Go.RowKit
namespace Pl
theorem take_getD4 (xs : List Int) : ∀ n, n ≤ xs.length → xs.take n = (List.range n).map (fun i => xs.getD i 0)
  | 0, _ => by simp
  | n + 1, h => by
    rw [take_snoc xs n (by omega), take_getD4 xs n (by omega), List.range_succ, List.map_append]
    rfl
theorem cat2 {a b : Int} (hb : 0 ≤ b ∧ b ≤ 255) {x : Int} : (x / 256 = a ∧ x % 256 = b) ↔ a * 256 + b = x := by omega
theorem four_at4 {xs : List Int} (hb : IsB xs) (i : Nat) : four (at4 xs i) = [xs.getD i 0, xs.getD (i + 1) 0, xs.getD (i + 2) 0, xs.getD (i + 3) 0] := by
  have h0 := hb.getD i
  have h1 := hb.getD (i + 1)
  have h2 := hb.getD (i + 2)
  have h3 := hb.getD (i + 3)
  unfold four at4
  generalize xs.getD i 0 = x0 at *
  generalize xs.getD (i + 1) 0 = x1 at *
  generalize xs.getD (i + 2) 0 = x2 at *
  generalize xs.getD (i + 3) 0 = x3 at *
  simp only [List.cons.injEq, and_true]
  omega
/-- The numbers that bytes give, written. -/
theorem enc4_list {xs : List Int} (hb : IsB xs) (h0 : 20 ≤ xs.length) (C : Int) :
    head4 (at4 xs 12) (at4 xs 16) (xs.getD 8 0) (xs.getD 9 0) (at2 xs 4) ((xs.drop 20).length : Nat) C ++ xs.drop 20 =
      [69, 0, (xs.length : Int) / 256, (xs.length : Int) % 256, xs.getD 4 0, xs.getD 5 0, 64, 0, xs.getD 8 0, xs.getD 9 0, C / 256, C % 256, xs.getD 12 0, xs.getD 13 0, xs.getD 14 0, xs.getD 15 0, xs.getD 16 0, xs.getD 17 0, xs.getD 18 0, xs.getD 19 0] ++ xs.drop 20 := by
  have hl : (20 : Int) + ((xs.drop 20).length : Nat) = xs.length := by rw [List.length_drop]; omega
  have h4 := (cat2 (a := xs.getD 4 0) (x := at2 xs 4) (hb.getD 5)).2 rfl
  unfold head4
  rw [four_at4 hb 12, four_at4 hb 16]
  unfold first4
  rw [hl, h4.1, h4.2]
  rfl
theorem list20 {xs : List Int} (h0 : 20 ≤ xs.length) : xs = [xs.getD 0 0, xs.getD 1 0, xs.getD 2 0, xs.getD 3 0, xs.getD 4 0, xs.getD 5 0, xs.getD 6 0, xs.getD 7 0, xs.getD 8 0, xs.getD 9 0, xs.getD 10 0, xs.getD 11 0, xs.getD 12 0, xs.getD 13 0, xs.getD 14 0, xs.getD 15 0, xs.getD 16 0, xs.getD 17 0, xs.getD 18 0, xs.getD 19 0] ++ xs.drop 20 := by
  have ht := List.take_append_drop 20 xs
  rw [take_getD4 xs 20 h0] at ht
  exact ht.symm
theorem enc4_iff {xs : List Int} (hb : IsB xs) (h0 : 20 ≤ xs.length) (h1 : xs.length ≤ 340) :
    enc4 (at4 xs 12) (at4 xs 16) (xs.getD 8 0) (xs.getD 9 0) (at2 xs 4) (xs.drop 20) = xs ↔ (Shape4 xs ∧ at2 xs 10 = sum4 (at4 xs 12) (at4 xs 16) (xs.getD 8 0) (xs.getD 9 0) (at2 xs 4) ((xs.drop 20).length : Nat)) := by
  have hs := sum4_bd (at4 xs 12) (at4 xs 16) (xs.getD 8 0) (xs.getD 9 0) (at2 xs 4) ((xs.drop 20).length : Nat)
  unfold enc4
  generalize sum4 (at4 xs 12) (at4 xs 16) (xs.getD 8 0) (xs.getD 9 0) (at2 xs 4) ((xs.drop 20).length : Nat) = C at *
  rw [enc4_list hb h0 C]
  conv => lhs; rhs; rw [list20 h0]
  rw [List.append_cancel_right_eq]
  simp only [List.cons.injEq, and_true, true_and]
  unfold Shape4
  have B := fun i => hb.getD i
  have b0 := B 0
  have b1 := B 1
  have b6 := B 6
  have b7 := B 7
  have e0 := cat2 (x := 17664) (a := xs.getD 0 0) b1
  have e2 := cat2 (x := xs.length) (a := xs.getD 2 0) (B 3)
  have e6 := cat2 (x := 16384) (a := xs.getD 6 0) b7
  have e10 := cat2 (x := C) (a := xs.getD 10 0) (B 11)
  show _ ↔ (_ ∧ xs.getD 0 0 * 256 + xs.getD 1 0 = 17664 ∧ xs.getD 2 0 * 256 + xs.getD 3 0 = xs.length ∧ xs.getD 6 0 * 256 + xs.getD 7 0 = 16384) ∧ xs.getD 10 0 * 256 + xs.getD 11 0 = C
  rw [← e0, ← e2, ← e6, ← e10]
  constructor
  · rintro ⟨a0, a1, a2, a3, a6, a7, a10, a11⟩
    exact ⟨⟨⟨h0, h1⟩, ⟨by omega, by omega⟩, ⟨a2, a3⟩, ⟨by omega, by omega⟩⟩, a10, a11⟩
  · rintro ⟨⟨_, ⟨a0, a1⟩, ⟨a2, a3⟩, ⟨a6, a7⟩⟩, a10, a11⟩
    exact ⟨by omega, by omega, a2, a3, by omega, by omega, a10, a11⟩
theorem patch4_iff {xs : List Int} (hb : IsB xs) (h0 : 20 ≤ xs.length) (h1 : xs.length ≤ 340) :
    patch4 (enc4 (at4 xs 12) (at4 xs 16) (xs.getD 8 0) (xs.getD 9 0) (at2 xs 4) (xs.drop 20)) xs = xs ↔ Shape4 xs := by
  unfold enc4
  rw [enc4_list hb h0 _]
  have hp : (xs.drop 10).take 2 = [xs.getD 10 0, xs.getD 11 0] := by
    conv => lhs; rw [list20 h0]
    rfl
  unfold patch4
  rw [hp]
  show [69, 0, (xs.length : Int) / 256, (xs.length : Int) % 256, xs.getD 4 0, xs.getD 5 0, 64, 0, xs.getD 8 0, xs.getD 9 0, xs.getD 10 0, xs.getD 11 0, xs.getD 12 0, xs.getD 13 0, xs.getD 14 0, xs.getD 15 0, xs.getD 16 0, xs.getD 17 0, xs.getD 18 0, xs.getD 19 0] ++ xs.drop 20 = xs ↔ _
  conv => lhs; rhs; rw [list20 h0]
  rw [List.append_cancel_right_eq]
  simp only [List.cons.injEq, and_true, true_and]
  unfold Shape4
  have B := fun i => hb.getD i
  have b0 := B 0
  have b1 := B 1
  have b6 := B 6
  have b7 := B 7
  have e0 := cat2 (x := 17664) (a := xs.getD 0 0) b1
  have e2 := cat2 (x := xs.length) (a := xs.getD 2 0) (B 3)
  have e6 := cat2 (x := 16384) (a := xs.getD 6 0) b7
  show _ ↔ (_ ∧ xs.getD 0 0 * 256 + xs.getD 1 0 = 17664 ∧ xs.getD 2 0 * 256 + xs.getD 3 0 = xs.length ∧ xs.getD 6 0 * 256 + xs.getD 7 0 = 16384)
  rw [← e0, ← e2, ← e6]
  constructor
  · rintro ⟨a0, a1, a2, a3, a6, a7⟩
    exact ⟨⟨h0, h1⟩, ⟨by omega, by omega⟩, ⟨a2, a3⟩, ⟨by omega, by omega⟩⟩
  · rintro ⟨_, ⟨a0, a1⟩, ⟨a2, a3⟩, ⟨a6, a7⟩⟩
    exact ⟨by omega, by omega, a2, a3, by omega, by omega⟩
theorem ok4_iff {s d t k i : Int} : ok4b s d t k i = true ↔ Ok4 s d t k i := ⟨ok4b_yes, fun h => by
  cases he : ok4b s d t k i with
  | true => rfl
  | false => exact absurd h (ok4b_no he)⟩
end Pl
theorem fault4_zero {s d t k i : Int} {n : Nat} (h : fault4 s d t k i n = 0) : Pl.Ok4 s d t k i ∧ n ≤ 320 := by
  unfold fault4 at h
  by_cases hk : ok4b s d t k i = true
  · rw [if_pos hk] at h
    by_cases hn : n ≤ 320
    · exact ⟨ok4b_yes hk, hn⟩
    · rw [if_neg hn] at h; omega
  · rw [if_neg hk] at h; omega
theorem check4p_any (s d t k i : Int) (a : Option Addr) (n c : Nat) (w : World) :
    Calls Tryz.prog 74 #[pk4 s d t k i (.slice a n c)] w fun e w' => e = .returned (erv (fault4 s d t k i n)) ∧ Ext w w' := by
  unfold fault4
  by_cases hk : ok4b s d t k i = true
  · rw [if_pos hk]
    by_cases hn : n ≤ 320
    · rw [if_pos hn]
      exact check4_ok s d t k i a n c w (ok4b_yes hk) hn
    · rw [if_neg hn]
      exact check4_full s d t k i a n c w (ok4b_yes hk) (by omega)
  · rw [if_neg hk]
    exact check4_range s d t k i a n c w (fun h => hk (Pl.ok4_iff.2 h))
theorem encode4_err (s d t k i : Int) (a : Option Addr) (n c : Nat) (w : World) (h : fault4 s d t k i n ≠ 0) :
    Calls Tryz.prog 34 #[pk4 s d t k i (.slice a n c)] w fun e w' => e = .returned (.tuple #[.slice none 0 0, erv (fault4 s d t k i n)]) ∧ Ext w w' := by
  have E0 : Ext w (w.alloc (.cells #[.int .i64 s, .int .i64 d, .int .i64 t, .int .i64 k, .int .i64 i, .slice a n c] 44)) := (Ext.refl w).alloc _
  have KEY := Lib.hid (fun W => check4p_any s d t k i a n c W)
  obtain ⟨E, hE⟩ : ∃ E, fault4 s d t k i n = E := ⟨_, rfl⟩
  rw [hE] at KEY h ⊢
  have he := erv_ne h
  rw [he] at KEY
  have HE := Lib.hid he
  clear hE h he
  unfold pk4
  unfold errv at KEY
  go_enter Tryz.func34, Tryz.ntmps34
  go_wp2_with fail
  refine (KEY.out _).mono ?_
  rintro e W2 ⟨rfl, q2⟩
  have E2 := E0.trans q2
  go_wp2_with fail
  go_ret2
  exact ⟨by rw [HE.out]; rfl, E2⟩
/-- Decode, exactly. -/
theorem decode4_all (a : Option Addr) (n c : Nat) (xs : List Int) (w : World) (hr : Ints .u8 w a n xs) (hb : Pl.IsB xs) (hnc : n ≤ c) :
    Calls Tryz.prog 35 #[.slice a n c] w fun e w' =>
      (¬ Pl.Shape4 xs → e = .returned (.tuple #[pk4 0 0 0 0 0 (.slice none 0 0), errv 5])) ∧
      (Pl.Shape4 xs → Pl.at2 xs 10 ≠ Pl.sum4 (Pl.at4 xs 12) (Pl.at4 xs 16) (xs.getD 8 0) (xs.getD 9 0) (Pl.at2 xs 4) ((xs.drop 20).length : Nat) → e = .returned (.tuple #[pk4 0 0 0 0 0 (.slice none 0 0), errv 6])) ∧
      (Pl.Shape4 xs → Pl.at2 xs 10 = Pl.sum4 (Pl.at4 xs 12) (Pl.at4 xs 16) (xs.getD 8 0) (xs.getD 9 0) (Pl.at2 xs 4) ((xs.drop 20).length : Nat) → ∃ v, e = .returned (.tuple #[pk4 (Pl.at4 xs 12) (Pl.at4 xs 16) (xs.getD 8 0) (xs.getD 9 0) (Pl.at2 xs 4) v, .nilIface]) ∧ Own w' w.heap.size v (xs.drop 20)) ∧ Ext w w' := by
  have hl := hr.len
  by_cases h0 : n < 20 ∨ 340 < n
  · refine (decode4_short a n c w h0).mono fun e w' ⟨he, hw⟩ => ⟨fun _ => he, fun hS => absurd hS.1 (by omega), fun hS => absurd hS.1 (by omega), hw⟩
  · obtain ⟨b, off, rfl, hbl, _⟩ := hr.at (by omega)
    refine (decode4_core b off n c xs w _ _ _ _ _ _ hr hbl hnc (by omega) (by omega) (Pl.ok4_of hb) rfl rfl rfl rfl rfl rfl hb).mono fun e w' h => ?_
    obtain ⟨h1, h2, h3, h4⟩ := h
    have hE := Pl.enc4_iff hb (by omega) (by omega)
    have hP := Pl.patch4_iff hb (by omega) (by omega)
    refine ⟨fun hS => h3 (fun he => hS (hE.1 he).1) (fun hp => hS (hP.1 hp)), fun hS hne => h2 (fun he => hne (hE.1 he).2) (hP.2 hS), fun hS heq => h1 (hE.2 ⟨hS, heq⟩), h4⟩
end Go.Proofs.YtbjogkpepfgegaaGreatDoor
