/- The document's answers on packets of sixes: Fault6, Encoded6, word. Conditions: as each theorem states them. -/
import Derived.Test.YtlgdmipejgggkaaDoorRef4
import Derived.Test.YtlgdmipejgggkaaDoorIp6e
import Derived.Test.YtlgdmipejgggkaaDoorOver6
import Derived.BigQuiet
namespace Go.Proofs.YtlgdmipejgggkaaDoor
open Go.RowKit

set_option maxRecDepth 100000 in
set_option maxHeartbeats 2000000 in
theorem rfault6_any (p : P6) (a : Option Addr) (n c : Nat) (w : World) :
    Calls Tryd.prog 16 #[p.v (.slice a n c)] w fun e w' => e = .returned (.int .i64 (p.fault n)) ∧ Ext w w' := by
  have K0 := Blk.new w 39 (p.cells (.slice a n c))
  have E0 : Ext w (w.alloc (.cells (p.cells (.slice a n c)) 39)) := (Ext.refl w).alloc _
  have l0s := K0.p6src
  obtain ⟨m0, m1, m2⟩ := K0.p6nums
  obtain ⟨bh, hbh⟩ : ∃ b, b8 p.hop = b := ⟨_, rfl⟩
  obtain ⟨bk, hbk⟩ : ∃ b, b8 p.kind = b := ⟨_, rfl⟩
  obtain ⟨bs, hbs⟩ : ∃ b, okS p.src = b := ⟨_, rfl⟩
  obtain ⟨bd, hbd⟩ : ∃ b, okS p.dst = b := ⟨_, rfl⟩
  have hg : p.good = (bs && bd && bh && bk) := by unfold P6.good; rw [hbs, hbd, hbh, hbk]
  have HW := Lib.hid (fun W => (show Calls Tryd.prog 39 #[.int .i64 p.hop] W (fun e w' => e = .returned (.bool bh) ∧ W = w') from hbh ▸ isByte_any p.hop W))
  have HK := Lib.hid (fun W => (show Calls Tryd.prog 39 #[.int .i64 p.kind] W (fun e w' => e = .returned (.bool bk) ∧ W = w') from hbk ▸ isByte_any p.kind W))
  have HS := Lib.hid hbs
  have HD := Lib.hid hbd
  have HG := Lib.hid hg
  clear hbh hbk hbs hbd hg
  go_enter Tryd.func16, Tryd.ntmps16
  go_wp2_with fail
  refine (HW.out _).mono ?_
  rintro e w' ⟨rfl, rfl⟩
  go_wp2_with fail
  refine (HK.out _).mono ?_
  rintro e w' ⟨rfl, rfl⟩
  cases bs
  case false =>
    go_wp2_with ((apply load_by rfl _ _ rfl _ rfl); (focus (with_reducible assumption)))
    refine (sixf_no p.src _ HS.out).mono ?_
    rintro e W1 ⟨rfl, q1⟩
    go_wp2_with fail
    go_ret
    exact ⟨by rw [P6.fault_bad (show p.good = false by rw [HG.out]; rfl)]; first | done | rfl, E0.trans q1⟩
  go_wp2_with ((apply load_by rfl _ _ rfl _ rfl); (focus (with_reducible assumption)))
  refine (sixf_yes p.src _ HS.out).mono ?_
  rintro e W1 ⟨rfl, q1⟩
  have l1d := (K0.ext q1).p6dst
  clear l0s
  cases bd
  case false =>
    go_wp2_with ((apply load_by rfl _ _ rfl _ rfl); (focus (with_reducible assumption)))
    refine (sixf_no p.dst _ HD.out).mono ?_
    rintro e W2 ⟨rfl, q2⟩
    go_wp2_with fail
    go_ret
    exact ⟨by rw [P6.fault_bad (show p.good = false by rw [HG.out]; rfl)]; first | done | rfl, (E0.trans q1).trans q2⟩
  go_wp2_with ((apply load_by rfl _ _ rfl _ rfl); (focus (with_reducible assumption)))
  refine (sixf_yes p.dst _ HD.out).mono ?_
  rintro e W2 ⟨rfl, q2⟩
  obtain ⟨k0, k1, k2⟩ := ((K0.ext q1).ext q2).p6nums
  cases bh
  case false =>
    go_wp2_with fail
    go_ret
    exact ⟨by rw [P6.fault_bad (show p.good = false by rw [HG.out]; rfl)]; first | done | rfl, (E0.trans q1).trans q2⟩
  cases bk
  case false =>
    go_wp2_with fail
    go_ret
    exact ⟨by rw [P6.fault_bad (show p.good = false by rw [HG.out]; rfl)]; first | done | rfl, (E0.trans q1).trans q2⟩
  by_cases hn : n ≤ 320
  · skip
    have hn' : ¬ (320 : Int) < (n : Int) := by omega
    go_wp2_with fail
    go_ret
    exact ⟨by rw [P6.fault_none HG.out hn]; first | done | rfl, (E0.trans q1).trans q2⟩
  · skip
    have hn' : (320 : Int) < (n : Int) := by omega
    go_wp2_with fail
    go_ret
    exact ⟨by rw [P6.fault_full HG.out hn]; first | done | rfl, (E0.trans q1).trans q2⟩

set_option maxRecDepth 100000 in
set_option maxHeartbeats 2000000 in
theorem encoded6_any (p : P6) (a : Option Addr) (n c : Nat) (b : List Int) (w : World) (h : p.fault n = 0) (hr : Ints .u8 w a n b) :
    Calls Tryd.prog 18 #[p.v (.slice a n c)] w fun e w' => ∃ v, e = .returned v ∧ Own w' w.heap.size v (Pl.enc6 p b) ∧ Ext w w' := by
  have K0 := Blk.new w 39 (p.cells (.slice a n c))
  have E0 : Ext w (w.alloc (.cells (p.cells (.slice a n c)) 39)) := (Ext.refl w).alloc _
  obtain ⟨hg, hn⟩ := P6.fault_zero h
  obtain ⟨hs, hd, ⟨h0, h1⟩, ⟨k0, k1⟩⟩ := P6.good_all hg
  obtain ⟨m0, m1, m2⟩ := K0.p6nums
  have e1 : IntKind.i64.wrap (p.kind * 256) = p.kind * 256 := IntWalk.i64_in _ (by omega)
  have e2 : IntKind.i64.wrap (p.kind * 256 + p.hop) = p.kind * 256 + p.hop := IntWalk.i64_in _ (by omega)
  have htwo : Pl.two [24576, 0, (n : Int), p.kind * 256 + p.hop] = Pl.head6 p n := by
    simp [Pl.two, Pl.head6]
    omega
  have hl1 : (Pl.two p.src.l).length = 16 := by rw [Pl.two_length]; rfl
  have hl2 : (Pl.two p.dst.l).length = 16 := by rw [Pl.two_length]; rfl
  have HL1 := Lib.hid hl1
  have HL2 := Lib.hid hl2
  have HT := Lib.hid htwo
  have HS := Lib.hid hs
  have HD := Lib.hid hd
  have HR := Lib.hid hr
  clear h hg hs hd hr hl1 hl2 htwo
  go_enter Tryd.func18, Tryd.ntmps18
  go_wp2_with fail
  refine (rwords_any (w.heap.size + 1) (.slice none 0 0) [] (some ⟨w.heap.size + 1, 0, none⟩) 4 4 [24576, 0, (n : Int), p.kind * 256 + p.hop] _ (Own.nil _ _) ?_ (fun x hx => by simp only [List.mem_cons, List.not_mem_nil, or_false] at hx; rcases hx with rfl | rfl | rfl | rfl <;> omega) (by simp) (fun k hk => by cases hk) (by simp)).mono ?_
  · have := ints_new (w.alloc (.cells (p.cells (.slice a n c)) 39)) #[.int .i64 24576, .int .i64 0, .int .i64 n, .int .i64 (p.kind * 256 + p.hop)] 3 (0, 0) .i64 [24576, 0, (n : Int), p.kind * 256 + p.hop] rfl
    simpa using this
  rintro e W1 ⟨v1, rfl, o1, b1⟩
  rw [List.nil_append, HT.out] at o1
  have K1 := Blk.below (K0.alloc (.cells #[.int .i64 24576, .int .i64 0, .int .i64 n, .int .i64 (p.kind * 256 + p.hop)] 3)) b1 (Nat.lt_succ_self _)
  have E1 : Ext w W1 := Below.trans (E0.alloc (.cells #[.int .i64 24576, .int .i64 0, .int .i64 n, .int .i64 (p.kind * 256 + p.hop)] 3)) (Below.mono b1 (Nat.le_succ _))
  have l1 := K1.p6src
  have hz1 := K1.lt
  clear K0 E0 b1 m0 m1 m2 e1 e2
  go_wp2_with ((apply load_by rfl _ _ rfl _ rfl); (focus (with_reducible assumption)))
  refine (bytesOf_any p.src W1 HS.out).mono ?_
  rintro e W2 ⟨v2, rfl, o2, q2⟩
  obtain ⟨a2, n2, c2, rfl, _, r2⟩ := o2.read
  have hn2 := r2.len
  have K2 := K1.ext q2
  have E2 := E1.trans q2
  have z2 := q2.size
  clear l1
  go_wp2_with (at_builtin; refine Halt.out ?_)
  refine Halt.mk ?_
  refine app rfl _ _ rfl (w.heap.size + 1) v1 _ rfl (o1.ext q2) a2 n2 c2 (Pl.two p.src.l) rfl r2 (by have := HL1.out; simp [Pl.head6]; omega) (by omega) ?_
  intro v3 W3 o3 b3
  have K3 := Blk.below K2 b3 (Nat.lt_succ_self _)
  have E3 : Ext w W3 := Below.trans E2 (Below.mono b3 (Nat.le_succ _))
  have l3 := K3.p6dst
  have hz3 := K3.lt
  clear K1 K2 E1 E2 o1 o2 q2 r2 b3
  go_wp2_with ((apply load_by rfl _ _ rfl _ rfl); (focus (with_reducible assumption)))
  refine (bytesOf_any p.dst W3 HD.out).mono ?_
  rintro e W4 ⟨v4, rfl, o4, q4⟩
  obtain ⟨a4, n4, c4, rfl, _, r4⟩ := o4.read
  have hn4 := r4.len
  have K4 := K3.ext q4
  have E4 := E3.trans q4
  have z4 := q4.size
  clear l3
  go_wp2_with (at_builtin; refine Halt.out ?_)
  refine Halt.mk ?_
  refine app rfl _ _ rfl (w.heap.size + 1) v3 _ rfl (o3.ext q4) a4 n4 c4 (Pl.two p.dst.l) rfl r4 (by have := HL1.out; have := HL2.out; simp [Pl.head6]; omega) (by omega) ?_
  intro v5 W5 o5 b5
  have K5 := Blk.below K4 b5 (Nat.lt_succ_self _)
  have E5 : Ext w W5 := Below.trans E4 (Below.mono b5 (Nat.le_succ _))
  obtain ⟨m0, m1, m2⟩ := K5.p6nums
  have hz5 := K5.lt
  clear K3 K4 E3 E4 o3 o4 q4 r4 b5
  go_wp2_with (at_builtin; refine Halt.out ?_)
  refine Halt.mk ?_
  refine app rfl _ _ rfl (w.heap.size + 1) v5 _ rfl o5 a n c b rfl (HR.out.ext E5) (by have := HL1.out; have := HL2.out; simp [Pl.head6]; omega) (by omega) ?_
  intro v7 W7 o7 b7
  have E7 : Ext w W7 := Below.trans E5 (Below.mono b7 (Nat.le_succ _))
  have HE7 := Lib.hid E7
  have HO7 := Lib.hid o7
  clear E7 o7 b7 m0 m1 m2
  go_wp2_with fail
  go_ret
  refine ⟨_, rfl, ?_, HE7.out⟩
  have hb := HR.out.len
  unfold Pl.enc6
  rw [hb]
  exact HO7.out.mono (Nat.le_succ _)

set_option maxHeartbeats 1000000 in
theorem rword_any (b off n c k : Nat) (i : Int) (hi : i = k) (x y : Int) (w : World) (hn : k + 1 < n) (hn2 : n ≤ 100000) (h0 : w.cell? ⟨b, off + k, none⟩ = some (.int .u8 x)) (h1 : w.cell? ⟨b, off + (k + 1), none⟩ = some (.int .u8 y)) (hx : 0 ≤ x ∧ x ≤ 255) (hy : 0 ≤ y ∧ y ≤ 255) :
    Calls Tryd.prog 45 #[.slice (some ⟨b, off, none⟩) n c, .int .i64 i] w fun e w' => e = .returned (.int .i64 (x * 256 + y)) ∧ ∃ q, w' = w.drewN q := by
  subst hi
  obtain ⟨x0, x1⟩ := hx
  obtain ⟨y0, y1⟩ := hy
  have l0 : (k : Int) < (n : Int) := by omega
  have l1 : (k : Int) + 1 < (n : Int) := by omega
  have e1 : IntKind.i64.wrap x = x := IntWalk.i64_in _ (by omega)
  have e2 : IntKind.i64.wrap y = y := IntWalk.i64_in _ (by omega)
  have e3 : IntKind.i64.wrap (256 * x) = 256 * x := IntWalk.i64_in _ (by omega)
  have e4 : IntKind.i64.wrap (256 * x + y) = 256 * x + y := IntWalk.i64_in _ (by omega)
  have e5 : IntKind.i64.wrap ((k : Int) + 1) = (k : Int) + 1 := IntWalk.i64_in _ (by omega)
  have e6 : ((k : Int) + 1).toNat = k + 1 := by omega
  go_enter Tryd.func45, Tryd.ntmps45
  go_wp2_with fail
  go_quiet (fail)
  go_wp2_with fail
  go_ret
  exact ⟨ret_int (by omega), nq, rfl⟩
end Go.Proofs.YtlgdmipejgggkaaDoor
