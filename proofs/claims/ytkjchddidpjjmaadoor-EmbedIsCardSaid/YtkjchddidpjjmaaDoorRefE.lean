/- The document's answers on fours in sixes: Long, PrefixFault, IntoOf, OutOf. Conditions: as each theorem states them. -/
import Derived.Test.YtkjchddidpjjmaaDoorEmb5
import Derived.Test.YtkjchddidpjjmaaDoorRef4
import Derived.Test.YtkjchddidpjjmaaDoorRef6s
namespace Go.Proofs.YtkjchddidpjjmaaDoor
open Go.RowKit
theorem rlong_any (n : Int) (w : World) : Calls Tryd.prog 16 #[.int .i64 n] w fun e w' => e = .returned (.bool (Pl.longB n)) ∧ w = w' := by
  cases h : Pl.longB n
  case true =>
    have h' := Pl.longB_yes h
    clear h
    rcases h' with rfl | rfl | rfl | rfl | rfl | rfl
    all_goals
      go_enter Tryd.func16, Tryd.ntmps16
      go_wp2
      go_ret
      exact ⟨rfl, rfl⟩
  case false =>
    obtain ⟨h1, h2, h3, h4, h5, h6⟩ := Pl.longB_no h
    have e1 : (n == 32) = false := by simpa using h1
    have e2 : (n == 40) = false := by simpa using h2
    have e3 : (n == 48) = false := by simpa using h3
    have e4 : (n == 56) = false := by simpa using h4
    have e5 : (n == 64) = false := by simpa using h5
    have e6 : (n == 96) = false := by simpa using h6
    clear h h1 h2 h3 h4 h5 h6
    go_enter Tryd.func16, Tryd.ntmps16
    go_wp2
    go_ret
    exact ⟨rfl, rfl⟩
theorem sixE_yes {s : Six} (h : okS s = true) : sixE s = 0 := by unfold sixE; rw [if_pos (show words s.l = true from h)]
theorem sixE_no {s : Six} (h : okS s = false) : sixE s = 1 := by unfold sixE; rw [if_neg (by rw [show words s.l = false from h]; decide)]

set_option maxRecDepth 100000 in
set_option maxHeartbeats 2000000 in
theorem rpfx_any (s : Six) (n : Int) (w : World) :
    Calls Tryd.prog 9 #[s.v, .int .i64 n] w fun e w' => e = .returned (.int .i64 (Pl.pfxErr s n)) ∧ Ext w w' := by
  have K0 := Blk.new w 23 s.cells
  have E0 : Ext w (w.alloc (.cells s.cells 23)) := (Ext.refl w).alloc _
  have l0 := K0.six0
  by_cases hs : okS s = true
  case neg =>
    have HS := Lib.hid (sixE_no (s := s) (by simpa using hs))
    have HE := Lib.hid (show Pl.pfxErr s n = 1 by unfold Pl.pfxErr; rw [if_neg hs])
    clear hs
    go_enter Tryd.func9, Tryd.ntmps9
    go_wp2_with ((apply load_by rfl _ _ rfl _ rfl); (focus (with_reducible assumption)))
    refine (sixFault_any s _).mono ?_
    rintro e W1 ⟨rfl, q1⟩
    rw [HS.out]
    have E1 := E0.trans q1
    clear l0
    go_wp2_with fail
    go_ret
    exact ⟨by rw [HE.out]; rfl, E1⟩
  have HS := Lib.hid (sixE_yes hs)
  have HO := Lib.hid (show s.Ok from hs)
  have HB := Lib.hid (Six.isB hs)
  cases hl : Pl.longB n
  case false =>
    have HE := Lib.hid (show Pl.pfxErr s n = 1 by unfold Pl.pfxErr; rw [if_pos hs, hl]; rfl)
    have HL := Lib.hid hl
    clear hs hl
    go_enter Tryd.func9, Tryd.ntmps9
    go_wp2_with ((apply load_by rfl _ _ rfl _ rfl); (focus (with_reducible assumption)))
    refine (sixFault_any s _).mono ?_
    rintro e W1 ⟨rfl, q1⟩
    rw [HS.out]
    have E1 := E0.trans q1
    clear l0
    go_wp2_with fail
    refine (rlong_any n _).mono ?_
    rintro e w' ⟨rfl, rfl⟩
    rw [HL.out]
    go_wp2_with fail
    go_ret
    exact ⟨by rw [HE.out]; rfl, E1⟩
  have hn := Pl.longB_yes hl
  have HL := Lib.hid hl
  have HPE := Lib.hid (show Pl.pfxErr s n = if Pl.clean (Pl.two s.l) n then 0 else 2 by unfold Pl.pfxErr; rw [if_pos hs, if_pos hl])
  have hn0 : 0 ≤ n ∧ n ≤ 96 := by omega
  obtain ⟨n0, n1⟩ := hn0
  clear hs hl hn
  go_enter Tryd.func9, Tryd.ntmps9
  go_wp2_with ((apply load_by rfl _ _ rfl _ rfl); (focus (with_reducible assumption)))
  refine (sixFault_any s _).mono ?_
  rintro e W1 ⟨rfl, q1⟩
  rw [HS.out]
  have E1 := E0.trans q1
  have K1 := K0.ext q1
  have l1 := K1.six0
  clear l0 E0 K0 q1
  go_wp2_with fail
  refine (rlong_any n _).mono ?_
  rintro e w' ⟨rfl, rfl⟩
  rw [HL.out]
  go_wp2_with ((apply load_by rfl _ _ rfl _ rfl); (focus (with_reducible assumption)))
  refine (bytesOf_any s _ HO.out).mono ?_
  rintro e W2 ⟨v2, rfl, o2, q2⟩
  have E2 := E1.trans q2
  obtain ⟨g2, n2, c2, rfl, hn2, hc2, hg2, hg2', hcell2, _⟩ := o2.shape (by rw [Pl.two_length]; show 0 < 2 * 8; decide)
  have hl16 : (Pl.two s.l).length = 16 := by rw [Pl.two_length]; rfl
  obtain rfl : 16 = n2 := hl16.symm.trans hn2
  have HC := Lib.hid hcell2
  have HI := Lib.hid HB.out
  generalize Pl.two s.l = b at *
  clear l1 K1 E1 q2 o2 hcell2 HB
  go_wp2_with fail
  go_loop [8] (fun i => ∃ k : Nat, k ≤ 16 ∧ i = .int .i64 k ∧ ∀ j : Nat, j < k → (j = 8 ∨ n ≤ 8 * (j : Int)) → b.getD j 0 = 0) (fun i => 16 - (intOf i).toNat)
  case atStart => exact ⟨0, Nat.zero_le _, rfl, fun j hj => absurd hj (Nat.not_lt_zero _)⟩
  case round =>
    obtain ⟨k, hk, rfl, hF⟩ := hrel
    have HF := Lib.hid hF
    clear hF
    by_cases hlt : k < 16
    case neg =>
      obtain rfl : k = 16 := by omega
      go_wp2_with fail
      go_ret
      exact ⟨by rw [HPE.out, if_pos (show Pl.clean b n from HF.out)]; rfl, E2⟩
    case pos =>
      have hkl : (k : Int) < 16 := by omega
      have ck := HC.out k hlt
      have hbk : k = 8 ∨ n ≤ 8 * (k : Int) ∨ ¬ (k = 8 ∨ n ≤ 8 * (k : Int)) := by omega
      have ew : IntKind.i64.wrap (8 * (k : Int)) = 8 * (k : Int) := IntWalk.i64_in _ (by omega)
      have hy := fun h0 : b.getD k 0 = 0 => (fun (j : Nat) (hj : j < k + 1) (hc : j = 8 ∨ n ≤ 8 * (j : Int)) => (show b.getD j 0 = 0 from by
        rcases Nat.lt_succ_iff_lt_or_eq.1 hj with h | rfl
        · exact HF.out j h hc
        · exact h0))
      have HY := Lib.hid hy
      have HZ := Lib.hid (fun (hc : k = 8 ∨ n ≤ 8 * (k : Int)) (h0 : b.getD k 0 ≠ 0) => (show Pl.pfxErr s n = 2 from by
        rw [HPE.out, if_neg (show ¬ Pl.clean b n from fun h => h0 (h k hlt hc))]))
      have HN := Lib.hid (fun (hc : ¬ (k = 8 ∨ n ≤ 8 * (k : Int))) => (fun (j : Nat) (hj : j < k + 1) (hcj : j = 8 ∨ n ≤ 8 * (j : Int)) => (show b.getD j 0 = 0 from by
        rcases Nat.lt_succ_iff_lt_or_eq.1 hj with h | rfl
        · exact HF.out j h hcj
        · exact absurd hcj hc)))
      generalize b.getD k 0 = x at *
      clear hy
      by_cases h8 : k = 8
      case' pos => have hk8 : ((k : Int) == 8) = true := by simp; omega
      case' neg => have hk8 : ((k : Int) == 8) = false := by simp; omega
      case' neg => by_cases hnk : n ≤ 8 * (k : Int)
      all_goals
        by_cases hx : x = 0
        case' pos => have hxb : (x != 0) = false := by simpa using hx
        case' neg => have hxb : (x != 0) = true := by simpa using hx
      all_goals
        have HX := Lib.hid hx
        have H8 := Lib.hid h8
        clear hx h8 hbk
        go_wp2_with fail
        first
          | (go_ret; exact ⟨by rw [HZ.out (by first | exact .inl H8.out | exact .inr hnk) HX.out]; rfl, E2⟩)
          | (go_round
             case rel => exact ⟨k + 1, by omega, by go_num, by first | exact HY.out HX.out | exact HN.out (by have := H8.out; omega)⟩
             case measure => simp [intOf] <;> omega)

set_option maxRecDepth 100000 in
set_option maxHeartbeats 2000000 in
theorem rinto_ok (s : Six) (m : Nat) (four : Int) (w : World) (hs : okS s = true) (hm : 4 ≤ m ∧ m ≤ 12) (hf : 0 ≤ four ∧ four < 4294967296) :
    Calls Tryd.prog 13 #[s.v, .int .i64 (8 * (m : Int)), .int .i64 four] w fun e w' => e = .returned (sixAt (Pl.put (Pl.two s.l) (Pl.four four) (Pl.spots m))).v ∧ Ext w w' := by
  have K0 := (Blk.new w 23 s.cells).alloc (.cells zc6 23)
  have KR := Blk.at (n := w.heap.size + 1) (w.alloc (.cells s.cells 23)) 23 zc6 (by simp)
  have E0 : Ext w ((w.alloc (.cells s.cells 23)).alloc (.cells zc6 23)) := ((Ext.refl w).alloc _).alloc _
  have l0 := K0.six0
  have HO := Lib.hid (show s.Ok from hs)
  have HB := Lib.hid (fun k => Pl.put_isB (Six.isB hs) (Pl.four_isB hf.1 hf.2) ((Pl.spots m).take k))
  have HFB := Lib.hid (Pl.four_isB hf.1 hf.2)
  have HLN := Lib.hid (fun k => (Pl.put_length (Pl.two s.l) (Pl.four four) ((Pl.spots m).take k)).trans (show (Pl.two s.l).length = 16 by rw [Pl.two_length]; rfl))
  obtain ⟨f0, f1⟩ := hf
  obtain ⟨m4, m12⟩ := hm
  have hdiv : IntKind.i64.wrap (Int.tdiv (8 * (m : Int)) 8) = (m : Int) := by
    rw [Int.mul_comm, Int.mul_tdiv_cancel _ (by decide)]
    exact IntWalk.i64_in _ (by omega)
  have hdiv' : Int.tdiv (8 * (m : Int)) 8 = (m : Int) := by rw [Int.mul_comm, Int.mul_tdiv_cancel _ (by decide)]
  clear hs
  go_enter Tryd.func13, Tryd.ntmps13
  go_wp2_with ((apply load_by rfl _ _ rfl _ rfl); (focus (with_reducible assumption)))
  refine (bytesOf_any s _ HO.out).mono ?_
  rintro e W2 ⟨v2, rfl, o2, q2⟩
  obtain ⟨g2, n2, c2, rfl, hn2, hc2, hg2, hg2', _, _⟩ := o2.shape (by rw [Pl.two_length]; show 0 < 2 * 8; decide)
  have hl16 : (Pl.two s.l).length = 16 := by rw [Pl.two_length]; rfl
  obtain rfl : 16 = n2 := hl16.symm.trans hn2
  have R2 := KR.ext q2
  have E2 := E0.trans q2
  have hsz : w.heap.size + 2 ≤ g2 := by simp only [World.size_alloc] at hg2; omega
  clear l0 K0 KR E0
  go_wp2_with fail
  refine (fourBytes_any four _ f0 f1).mono ?_
  rintro e W3 ⟨v3, rfl, o3, q3⟩
  obtain ⟨a3, n3, c3, rfl, _, r3⟩ := o3.read
  obtain rfl : 4 = n3 := r3.len
  obtain ⟨b3, off3, rfl, hb3, hc3⟩ := r3.at (by decide)
  have R3 := R2.ext q3
  have E3 := E2.trans q3
  have ob : Own W3 (w.heap.size + 2) (.slice (some ⟨g2, 0, none⟩) 16 c2) (Pl.put (Pl.two s.l) (Pl.four four) ((Pl.spots m).take 0)) := (o2.ext q3).mono (by simp)
  have hg3 : g2 < W3.heap.size := by have := q3.size; omega
  have hb3g : g2 ≠ b3 := by have := (o3.lt b3 rfl).1; omega
  have i3 := r3
  clear o2 q2 q3 R2 E2 o3 r3 hc3
  go_wp2_with fail
  go_loopw [9, 10] (fun kv iv wr => ∃ k i : Nat, k ≤ 4 ∧ kv = .int .i64 k ∧ iv = .int .i64 i ∧ (i = Pl.cur m k ∨ (Pl.cur m k = 8 ∧ i = 9)) ∧ Own wr (w.heap.size + 2) (.slice (some ⟨g2, 0, none⟩) 16 c2) (Pl.put (Pl.two s.l) (Pl.four four) ((Pl.spots m).take k)) ∧ Ints .u8 wr (some ⟨b3, off3, none⟩) 4 (Pl.four four) ∧ Blk wr (w.heap.size + 1) 23 zc6 ∧ Ext w wr) (fun _ i _ => 20 - (intOf i).toNat)
  case atStart => exact ⟨0, m, by omega, rfl, rfl, .inl (Pl.cur_zero m).symm, ob, i3, R3, E3⟩
  case round =>
    obtain ⟨k, i, hk, rfl, rfl, hi, o, ii, kr, hE⟩ := hrel
    have hcur := Pl.cur_le m12 hk
    by_cases hlt : k < 4
    case pos =>
      have hkl : (k : Int) < 4 := by omega
      have hsp := Pl.spot_le m12 (show k ≤ 3 by omega)
      have hcs := Pl.cur_spot m k
      by_cases h8 : i = 8
      case pos =>
        subst h8
        have hc8 : Pl.cur m k = 8 := by rcases hi with h | ⟨_, h⟩ <;> omega
        go_wp2_with fail
        go_roundw
        case rel => exact ⟨k, 9, hk, rfl, rfl, .inr ⟨hc8, rfl⟩, o, ii, kr, hE⟩
        case measure => simp [intOf] <;> omega
      case neg =>
        have hb8 : ((i : Int) != 8) = true := by simp; omega
        have his : i = Pl.spot m k := by
          rcases hi with h | ⟨h1, h2⟩
          · rw [hcs, ← h, if_neg h8]
          · rw [hcs, if_pos h1]; exact h2
        have hi16 : i < 16 := by omega
        have hnext : Pl.cur m (k + 1) = i + 1 := by rw [Pl.cur_next, his]
        have HH := Lib.hid hi
        obtain ⟨b', off', hbo, _, hc⟩ := ii.at (by decide)
        cases hbo
        have ck := hc k hlt
        have hsh := o.shape (by rw [HLN.out]; decide)
        obtain ⟨g', n', c', hv', hn', _, _, _, hcl, hfz⟩ := hsh
        cases hv'
        have ci := hcl i hi16
        have fi := hfz i
        obtain ⟨fb0, fb1⟩ := HFB.out.getD k
        have osn := o.store i ((Pl.four four).getD k 0)
        have hput : Pl.put (Pl.two s.l) (Pl.four four) ((Pl.spots m).take (k + 1)) = (Pl.put (Pl.two s.l) (Pl.four four) ((Pl.spots m).take k)).set i ((Pl.four four).getD k 0) := by
          rw [← Pl.spots_snoc hlt, Pl.put_snoc, Pl.sp_fst hlt, Pl.sp_snd m12 (show k ≤ 3 by omega), his]
        rw [← hput] at osn
        have i' : Ints .u8 (wr.setCell ⟨g2, i, none⟩ (.int .u8 ((Pl.four four).getD k 0))) (some ⟨b3, off3, none⟩) 4 (Pl.four four) := ⟨ii.1, .inr ⟨b3, off3, rfl, fun j hj => (World.cell?_setCell_other _ _ _ _ (by simp; try exact fun h => absurd h.symm hb3g)).trans (hc j hj)⟩⟩
        have kr' := kr.far (p := ⟨g2, i, none⟩) (by show w.heap.size + 1 ≠ g2; omega) (.int .u8 ((Pl.four four).getD k 0))
        have E' := hE.set (p := ⟨g2, i, none⟩) (by show _ ≤ g2; omega) (.int .u8 ((Pl.four four).getD k 0))
        have HO' := Lib.hid osn
        have HI' := Lib.hid i'
        have HK' := Lib.hid kr'
        have HE' := Lib.hid E'
        generalize (Pl.four four).getD k 0 = x at *
        have hil : (i : Int) < 16 := by omega
        clear hi his h8 osn i' kr' E' hput hc hcl hfz o ii kr hE
        go_wp2_with fail
        go_roundw
        case rel => exact ⟨k + 1, i + 1, by omega, by go_num, by go_num, .inl hnext.symm, HO'.out, HI'.out, HK'.out, HE'.out⟩
        case measure => simp [intOf] <;> omega
    case neg =>
      obtain rfl : k = 4 := by omega
      have hkl : ¬ ((4 : Nat) : Int) < 4 := by omega
      have hB := HB.out 4
      obtain ⟨aR, nR, cR, hvR, _, iR⟩ := o.read
      cases hvR
      have ht : (Pl.spots m).take 4 = Pl.spots m := rfl
      rw [ht] at iR hB
      clear o ii ht hi
      go_wp2_with fail
      refine (rsixAt_any g2 0 16 c2 _ wr iR hB (Nat.le_refl _)).mono ?_
      rintro e W5 ⟨rfl, q5⟩
      have E5 := hE.trans q5
      have kr5 := kr.ext q5
      obtain ⟨S, hS⟩ : ∃ S, sixAt (Pl.put (Pl.two s.l) (Pl.four four) (Pl.spots m)) = S := ⟨_, rfl⟩
      rw [hS]
      have HS := Lib.hid hS
      clear hS
      have s5 := kr5.store (cs := S.cells) rfl Tryd.size6 (by simp [Six.cells, Value.oneCell'])
      have E6 := E5.row (k := w.heap.size + 1) (by omega) S.cells
      have k6 := kr5.row S.cells
      clear kr kr5 iR hB hE q5
      go_wp2_with ((apply store_by rfl _ _ _ rfl _ rfl); (focus (with_reducible assumption)); (focus rfl))
      refine bodyPost_ret (v := S.v) (results_cell_row Tryd.results13 _ _ (w.heap.size + 1) 23 _ (0, 0) _ rfl k6 Tryd.underlying23 rfl Tryd.size6) rfl ⟨by rw [HS.out], E6⟩

namespace Pl
/-- What OutOf has done when it comes to byte i. -/
def OutAt (b : List Int) (m k i : Nat) (v : Int) : Prop := v = val b ((spots m).take k) ∧ k ≤ 4 ∧ i ≤ 16 ∧
  ((k < 4 ∧ (i = cur m k ∨ (cur m k = 8 ∧ i = 9))) ∨ (k = 4 ∧ spot m 3 < i ∧ ∀ j : Nat, spot m 3 < j → j < i → j ≠ 8 → b.getD j 0 = 0))
end Pl
set_option maxRecDepth 100000 in
set_option maxHeartbeats 4000000 in
theorem rout_ok (s : Six) (m : Nat) (w : World) (hs : okS s = true) (hm : 4 ≤ m ∧ m ≤ 12) (hl : Pl.longB (8 * (m : Int)) = true) :
    Calls Tryd.prog 17 #[s.v, .int .i64 (8 * (m : Int))] w fun e w' => e = .returned (.tuple #[.int .i64 (Pl.outVal s (8 * (m : Int))), .int .i64 (Pl.outErr s (8 * (m : Int)))]) ∧ Ext w w' := by
  have K0 := Blk.new w 23 s.cells
  have E0 : Ext w (w.alloc (.cells s.cells 23)) := (Ext.refl w).alloc _
  have l0 := K0.six0
  have HO := Lib.hid (show s.Ok from hs)
  have HIB := Lib.hid (Six.isB hs)
  obtain ⟨m4, m12⟩ := hm
  have hdiv : IntKind.i64.wrap (Int.tdiv (8 * (m : Int)) 8) = (m : Int) := by
    rw [Int.mul_comm, Int.mul_tdiv_cancel _ (by decide)]
    exact IntWalk.i64_in _ (by omega)
  have hdiv' : Int.tdiv (8 * (m : Int)) 8 = (m : Int) := by rw [Int.mul_comm, Int.mul_tdiv_cancel _ (by decide)]
  have e8 : (8 * (m : Int) / 8).toNat = m := by omega
  have HE0 := Lib.hid (show ∀ (h : Pl.tailC (Pl.two s.l) m), Pl.outErr s (8 * (m : Int)) = 0 ∧ Pl.outVal s (8 * (m : Int)) = Pl.val (Pl.two s.l) (Pl.spots m) from fun h => by
    have : Pl.outErr s (8 * (m : Int)) = 0 := by unfold Pl.outErr; rw [if_pos hs, if_pos hl, e8, if_pos h]
    exact ⟨this, by unfold Pl.outVal; rw [if_pos this, e8]⟩)
  have HE2 := Lib.hid (show ∀ (h : ¬ Pl.tailC (Pl.two s.l) m), Pl.outErr s (8 * (m : Int)) = 2 ∧ Pl.outVal s (8 * (m : Int)) = 0 from fun h => by
    have : Pl.outErr s (8 * (m : Int)) = 2 := by unfold Pl.outErr; rw [if_pos hs, if_pos hl, e8, if_neg h]
    exact ⟨this, by unfold Pl.outVal; rw [if_neg (by rw [this]; decide)]⟩)
  generalize Pl.outErr s (8 * (m : Int)) = E at *
  generalize Pl.outVal s (8 * (m : Int)) = V at *
  clear hs hl e8
  go_enter Tryd.func17, Tryd.ntmps17
  go_wp2_with ((apply load_by rfl _ _ rfl _ rfl); (focus (with_reducible assumption)))
  refine (bytesOf_any s _ HO.out).mono ?_
  rintro e W2 ⟨v2, rfl, o2, q2⟩
  have E2 := E0.trans q2
  obtain ⟨g2, n2, c2, rfl, hn2, hc2, hg2, hg2', hcell2, _⟩ := o2.shape (by rw [Pl.two_length]; show 0 < 2 * 8; decide)
  have hl16 : (Pl.two s.l).length = 16 := by rw [Pl.two_length]; rfl
  obtain rfl : 16 = n2 := hl16.symm.trans hn2
  have HC := Lib.hid hcell2
  generalize Pl.two s.l = b at *
  clear l0 K0 E0 q2 o2 hcell2
  go_wp2_with fail
  go_loop [7, 8, 9] (fun fv kv iv => ∃ (k i : Nat) (v : Int), fv = .int .i64 v ∧ kv = .int .i64 k ∧ iv = .int .i64 i ∧ Pl.OutAt b m k i v) (fun _ _ i => 20 - (intOf i).toNat)
  case atStart => exact ⟨0, m, 0, rfl, rfl, rfl, rfl, by omega, by omega, .inl ⟨by omega, .inl (Pl.cur_zero m).symm⟩⟩
  case round =>
    obtain ⟨k, i, v, rfl, rfl, rfl, hv, hk, hi16, hrel⟩ := hrel
    have HR := Lib.hid hrel
    have HV := Lib.hid hv
    clear hrel
    by_cases hlt : i < 16
    case pos =>
      have hil : (i : Int) < 16 := by omega
      by_cases h8 : i = 8
      case pos =>
        subst h8
        have hnext : Pl.OutAt b m k 9 v := by
          refine ⟨HV.out, hk, by omega, ?_⟩
          rcases HR.out with ⟨h1, h2 | ⟨h2, h3⟩⟩ | ⟨h1, h2, h3⟩
          · exact .inl ⟨h1, .inr ⟨h2.symm, rfl⟩⟩
          · omega
          · refine .inr ⟨h1, by omega, fun j hj hj9 hj8 => h3 j hj (by omega) hj8⟩
        have HN := Lib.hid hnext
        clear hnext hv
        go_wp2_with fail
        go_round
        case rel => exact ⟨k, 9, v, rfl, rfl, rfl, HN.out⟩
        case measure => simp [intOf] <;> omega
      case neg =>
        have hb8 : ((i : Int) == 8) = false := by simp; omega
        have ci := HC.out i hlt
        obtain ⟨b0, b1⟩ := HIB.out.getD i
        by_cases hk4 : k < 4
        case pos =>
          have hkl : (k : Int) < 4 := by omega
          have his : i = Pl.spot m k := by
            rcases HR.out with ⟨h1, h2 | ⟨h2, h3⟩⟩ | ⟨h1, _, _⟩
            · rw [Pl.cur_spot, ← h2, if_neg h8]
            · rw [Pl.cur_spot, if_pos h2]; exact h3
            · omega
          have hvb := Pl.val_bd HIB.out ((Pl.spots m).take k) (by rw [List.length_take]; simp [Pl.spots]; omega)
          rw [← hv] at hvb
          obtain ⟨v0, v1⟩ := hvb
          have hnext : Pl.OutAt b m (k + 1) (i + 1) (v * 256 + b.getD i 0) := by
            refine ⟨?_, by omega, by omega, ?_⟩
            · rw [← Pl.spots_snoc hk4, Pl.val_snoc, ← HV.out, Pl.sp_snd m12 (show k ≤ 3 by omega), his]
            · by_cases hk3 : k = 3
              · subst hk3
                exact .inr ⟨rfl, by omega, fun j hj hji _ => by omega⟩
              · exact .inl ⟨by omega, .inl (by rw [Pl.cur_next, his])⟩
          have HN := Lib.hid hnext
          generalize b.getD i 0 = x at *
          have ew1 : IntKind.i64.wrap x = x := IntWalk.i64_in _ (by omega)
          have ew2 : IntKind.i64.wrap (v * 256) = v * 256 := IntWalk.i64_in _ (by omega)
          have ew3 : IntKind.i64.wrap (v * 256 + x) = v * 256 + x := IntWalk.i64_in _ (by omega)
          have HH := Lib.hid his
          clear hnext hv his h8
          go_wp2_with fail
          go_round
          case rel => exact ⟨k + 1, i + 1, _, rfl, by go_num, by go_num, HN.out⟩
          case measure => simp [intOf] <;> omega
        case neg =>
          have hkl : ¬ (k : Int) < 4 := by omega
          obtain ⟨hk4', hsi, hz⟩ : k = 4 ∧ Pl.spot m 3 < i ∧ ∀ j : Nat, Pl.spot m 3 < j → j < i → j ≠ 8 → b.getD j 0 = 0 := by
            rcases HR.out with ⟨h1, _⟩ | h
            · omega
            · exact h
          have HZ := Lib.hid hz
          have hbad := fun (h : b.getD i 0 ≠ 0) => HE2.out (fun ht => h (ht.2 i hsi hlt))
          have HBAD := Lib.hid hbad
          have HX := Lib.hid (fun (h : b.getD i 0 = 0) => (show Pl.OutAt b m k (i + 1) v from ⟨HV.out, hk, by omega, .inr ⟨hk4', by omega, fun j hj hji hj8 => by
            rcases Nat.lt_succ_iff_lt_or_eq.1 hji with h1 | rfl
            · exact HZ.out j hj h1 hj8
            · exact h⟩⟩))
          generalize b.getD i 0 = x at *
          clear hz hbad hv h8
          by_cases hx : x = 0
          · have hxb : (x != 0) = false := by simpa using hx
            have HH := Lib.hid hx
            clear hx
            go_wp2_with fail
            go_round
            case rel => exact ⟨k, i + 1, v, rfl, rfl, by go_num, HX.out HH.out⟩
            case measure => simp [intOf] <;> omega
          · have hxb : (x != 0) = true := by simpa using hx
            have HH := Lib.hid hx
            clear hx
            go_wp2_with fail
            go_ret2
            obtain ⟨h1, h2⟩ := HBAD.out HH.out
            exact ⟨by rw [h1, h2]; rfl, E2⟩
    case neg =>
      obtain rfl : i = 16 := by omega
      have hil : ¬ ((16 : Nat) : Int) < 16 := by omega
      obtain ⟨hk4, hz⟩ : k = 4 ∧ ∀ j : Nat, Pl.spot m 3 < j → j < 16 → j ≠ 8 → b.getD j 0 = 0 := by
        rcases HR.out with ⟨h1, h2⟩ | ⟨h1, _, h3⟩
        · have := Pl.spot_le m12 (show k ≤ 3 by omega)
          have := Pl.cur_spot m k
          split at this <;> omega
        · exact ⟨h1, h3⟩
      subst hk4
      have ht : (Pl.spots m).take 4 = Pl.spots m := rfl
      rw [ht] at hv
      have c8 := HC.out 8 (by decide)
      have HA := Lib.hid (fun (h : b.getD 8 0 = 0) => HE0.out ⟨h, fun j hj hj16 => by
        by_cases hj8 : j = 8
        · subst hj8; exact h
        · exact hz j hj hj16 hj8⟩)
      have HBD := Lib.hid (fun (h : b.getD 8 0 ≠ 0) => HE2.out (fun ht => h ht.1))
      clear hz ht
      have HVV := Lib.hid hv
      generalize b.getD 8 0 = x at *
      generalize Pl.val b (Pl.spots m) = u at *
      clear hv
      by_cases hx : x = 0
      · have hxb : (x != 0) = false := by simpa using hx
        have HH := Lib.hid hx
        clear hx
        go_wp2_with fail
        go_ret2
        obtain ⟨h1, h2⟩ := HA.out HH.out
        exact ⟨by rw [h1, h2, HVV.out]; rfl, E2⟩
      · have hxb : (x != 0) = true := by simpa using hx
        have HH := Lib.hid hx
        clear hx
        go_wp2_with fail
        go_ret2
        obtain ⟨h1, h2⟩ := HBD.out HH.out
        exact ⟨by rw [h1, h2]; rfl, E2⟩
end Go.Proofs.YtkjchddidpjjmaaDoor
