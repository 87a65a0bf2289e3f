/- The document's Blocks and NewPorts, port's Blocks of no address, and gangplanksame.Ints of two lists that are the same. Conditions: as each lemma states them. -/
import Derived.Test.YtapmbjmcbllalaaDoorPortB
namespace Go.Proofs.YtapmbjmcbllalaaDoor
open Go.RowKit
set_option maxRecDepth 100000 in
theorem blocks_no (gP : Nat) (who : Six) (w : World) (ho : okS who = false) :
    Calls Tryd.prog 26 #[.pointer (some ⟨gP, 0, none⟩), who.v] w fun e w' => e = .returned (.tuple #[.slice none 0 0, errv 1]) ∧ Ext w w' := by
  have KW := Blk.new w 31 who.cells
  have lw := KW.six0
  have E0 := (Ext.refl w).alloc (.cells who.cells 31)
  have HO := Lib.hid ho
  clear ho KW
  go_enter Tryd.func26, Tryd.ntmps26
  go_wp2_with ((apply load_by rfl _ _ rfl _ rfl); (focus (with_reducible assumption)))
  refine (check6_no who _ HO.out).mono ?_
  rintro e W1 ⟨rfl, q1⟩
  unfold errv
  go_wp2_with fail
  go_returns
  exact ⟨rfl, E0.trans q1⟩
set_option maxRecDepth 100000 in
set_option maxHeartbeats 2000000 in
theorem rblocks_any (gM gW gT : Nat) (s : PS) (r : RS) (who : Six) (w : World) (h : Rrt w gM gW gT r) (hL : Like s r) :
    Calls Tryd.prog 25 #[.pointer (some ⟨gM, 0, none⟩), who.v] w fun e w' => ∃ v, e = .returned v ∧ KI.Own 3 w' w.heap.size v (s.bl who s.n) ∧ Ext w w' := by
  have hn := h.n1
  have hrn := hL.n
  have K1 := Blk.new w 31 who.cells
  have E1 := (Ext.refl w).alloc (.cells who.cells 31)
  have HH := Lib.hid h
  have HL := Lib.hid hL
  obtain ⟨N, hN⟩ : ∃ N, 8 * r.n = N := ⟨_, rfl⟩
  clear h hL
  go_enter Tryd.func25, Tryd.ntmps25
  go_upto_region 1 with (fail)
  refine at_worldE (fun W => Ext w W ∧ Blk W w.heap.size 31 who.cells) ⟨E1, K1⟩ ?_
  clear E1 K1
  rintro W0 ⟨E1, K1⟩
  go_wp2_with fail
  go_loopw [5, 6] (fun v i wr => ∃ k : Nat, k ≤ s.n ∧ i = .int .i64 (k : Int) ∧ KI.Own 3 wr (w.heap.size + 1) v (s.bl who k) ∧ Ext w wr ∧ Blk wr w.heap.size 31 who.cells) (fun _ i _ => s.n - (intOf i).toNat)
  case atStart => exact ⟨0, Nat.zero_le _, rfl, Kin.Own.nil _ _, E1, K1⟩
  case round =>
    clear E1 K1
    obtain ⟨k, hk, rfl, o, Er, Kr⟩ := hrel
    have wk : IntKind.i64.wrap ((k : Int) + 1) = (k : Int) + 1 := IntWalk.i64_in _ (by omega)
    have HO1 := Lib.hid o
    have HE1 := Lib.hid Er
    have HK1 := Lib.hid Kr
    have R1 := HH.out.ext Er
    have c1 := R1.c1
    rw [hN] at c1
    have q1 : Int.tdiv (N : Int) 8 = (s.n : Int) := by rw [Int.tdiv_eq_ediv_of_nonneg (by omega)]; omega
    have q2 : IntKind.i64.wrap (s.n : Int) = (s.n : Int) := IntWalk.i64_in _ (by omega)
    by_cases hlt : k < s.n
    case neg =>
      obtain rfl : k = s.n := by omega
      have d1 : decide ((s.n : Int) < (s.n : Int)) = false := decide_eq_false (by omega)
      clear o Er Kr R1
      go_wp2_with fail
      go_returns
      exact ⟨_, rfl, HO1.out.mono (Nat.le_succ _), HE1.out⟩
    have d1 : decide ((k : Int) < (s.n : Int)) = true := decide_eq_true (by omega)
    have d2 : decide (k < s.n) = true := decide_eq_true hlt
    have HOW := Lib.hid (rowner_any gM gW gT s r k wr R1 HL.out hlt)
    clear o Er Kr R1
    go_wp2_with fail
    refine HOW.out.mono ?_
    rintro e W2 ⟨rfl, E2⟩
    have KZ := Blk.new W2 31 zc6
    have st := KZ.store (ty := 31) (cs := (s.hold k).cells) rfl Tryd.size6 (by simp [Six.cells, Value.oneCell'])
    have K3 := KZ.row (s.hold k).cells
    have E3 : Ext wr _ := (E2.alloc (.cells zc6 31)).row (k := W2.heap.size) E2.size (s.hold k).cells
    clear KZ HOW E2
    go_upto_region 6 with (((apply store_by rfl _ _ _ rfl _ rfl); (focus (with_reducible assumption)); (focus rfl)))
    refine at_worldE (fun W => Ext wr W ∧ Blk W W2.heap.size 31 (s.hold k).cells) ⟨E3, K3⟩ ?_
    clear st E3 K3 c1 q1 q2 d1 d2
    rintro W2 ⟨E2, K2⟩
    have HO2 := Lib.hid (HO1.out.ext E2)
    have HE2 := Lib.hid (HE1.out.trans E2)
    have HK2 := Lib.hid (HK1.out.ext E2)
    have lb := HK2.out.six0
    clear HO1 HE1 HK1
    by_cases hmz : s.many k = 0
    · have HNO := Lib.hid (show s.his who k = false by unfold PS.his; rw [hmz]; rfl)
      have his : s.is k = false := by unfold PS.is; rw [hmz]; rfl
      rw [his]
      clear hmz lb E2 K2
      go_wp2_with (first | ((apply load_by rfl _ _ rfl _ rfl); (focus (with_reducible assumption))))
      go_roundw
      case rel => exact ⟨k + 1, by omega, by go_num, by rw [PS.bl_no HNO.out]; exact HO2.out, HE2.out, HK2.out⟩
      case measure => simp [intOf] <;> omega
    · have his : s.is k = true := by unfold PS.is; exact decide_eq_true (by omega)
      have hho : s.hold k = s.own k := by unfold PS.hold; rw [if_neg hmz]
      rw [hho] at K2
      have la := K2.six0
      have lc := fun W => six_eq (s.own k) who W
      have hpos : decide (0 < s.many k) = true := decide_eq_true (by omega)
      rw [his]
      cases hq : sixEq (s.own k) who
      case false =>
        have HNO := Lib.hid (show s.his who k = false by unfold PS.his; rw [hq]; simp)
        rw [hq] at lc
        clear hmz hq hpos E2 K2
        go_wp2_with (first | ((apply load_by rfl _ _ rfl _ rfl); (focus (with_reducible assumption))))
        go_roundw
        case rel => exact ⟨k + 1, by omega, by go_num, by rw [PS.bl_no HNO.out]; exact HO2.out, HE2.out, HK2.out⟩
        case measure => simp [intOf] <;> omega
      case true =>
        have hhis : s.his who k = true := by unfold PS.his; rw [hq, hpos]; rfl
        rw [hq] at lc
        clear hmz hq hpos E2 K2
        go_wp2_with (first | ((apply load_by rfl _ _ rfl _ rfl); (focus (with_reducible assumption))) | (at_builtin; refine Halt.out ?_))
        refine Halt.mk ?_
        refine appI rfl _ _ rfl (w.heap.size + 1) u5 (s.bl who k) rfl (HO2.out.ext ((Ext.refl W2).alloc _)) _ _ _ [(k : Int)] rfl (Blk.new W2 _ _).ints1 (by have := s.bl_len who k; simp; omega) (by have := HK2.out.lt; simp; omega) ?_
        intro v3 W3 o3 _ b3
        rw [← PS.bl_yes hhis] at o3
        have HO3 := Lib.hid o3
        have HE3 := Lib.hid (Below.trans (HE2.out.alloc _) (b3.mono (show w.heap.size ≤ w.heap.size + 1 by omega)))
        have HK3 := Lib.hid ((HK2.out.alloc _).below b3 (by omega))
        clear o3 b3
        go_wp2_with fail
        go_roundw
        case rel => exact ⟨k + 1, by omega, by go_num, HO3.out, HE3.out, HK3.out⟩
        case measure => simp [intOf] <;> omega
set_option maxRecDepth 100000 in
set_option maxHeartbeats 1000000 in
theorem sints_yes (a b : Option Addr) (n c d : Nat) (xs : List Int) (w : World) (h1 : Ints .i64 w a n xs) (h2 : Ints .i64 w b n xs) (hn : n ≤ 65536) :
    Calls Tryd.prog 27 #[.slice a n c, .slice b n d] w fun e w' => e = .returned (.bool true) ∧ Ext w w' := by
  have H1 := Lib.hid h1
  have H2 := Lib.hid h2
  clear h1 h2
  go_enter Tryd.func27, Tryd.ntmps27
  go_wp2
  go_loopw [5] (fun i wr => ∃ k : Nat, k ≤ n ∧ i = .int .i64 (k : Int) ∧ Ext w wr) (fun i _ => n - (intOf i).toNat)
  case atStart => exact ⟨0, Nat.zero_le _, rfl, Ext.refl _⟩
  case round =>
    obtain ⟨k, hk, rfl, Er⟩ := hrel
    have HE := Lib.hid Er
    by_cases hlt : k < n
    · obtain ⟨ba, oa, rfl, _, ca⟩ := (H1.out.ext Er).at (by omega)
      obtain ⟨bb, ob, rfl, _, cb⟩ := (H2.out.ext Er).at (by omega)
      have c1 := ca k hlt
      have c2 := cb k hlt
      have hlt' : (k : Int) < (n : Int) := by omega
      have wk : IntKind.i64.wrap ((k : Int) + 1) = (k : Int) + 1 := IntWalk.i64_in _ (by omega)
      generalize xs.getD k 0 = x at *
      clear ca cb Er
      go_wp2_with fail
      go_quiet (fail)
      go_wp2_with fail
      go_roundw
      case rel => exact ⟨k + 1, by omega, by go_num, HE.out.drewN _⟩
      case measure => simp [intOf] <;> omega
    · have d1 : decide ((k : Int) < (n : Int)) = false := decide_eq_false (by omega)
      obtain rfl : k = n := by omega
      clear Er
      go_wp2_with fail
      go_returns
      exact ⟨rfl, HE.out⟩
end Go.Proofs.YtapmbjmcbllalaaDoor
