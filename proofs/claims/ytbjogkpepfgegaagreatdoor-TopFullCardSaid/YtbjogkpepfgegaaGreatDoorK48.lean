/- The statements' closed fact: a packet goes on, and back. Conditions: as each lemma states them. -/
import Derived.Test.YtbjogkpepfgegaaGreatDoorK47
import Derived.Test.YtbjogkpepfgegaaGreatDoorK43
import Derived.Test.YtbjogkpepfgegaaGreatDoorK36
import Derived.Lib.SlBytesConst
namespace Go.Proofs.YtbjogkpepfgegaaGreatDoor
open Go.RowKit
/-- The config in which all goes. -/
def plC : Cfg := ⟨⟨1, 0, 0, 0, 0, 0, 0, 0⟩, 80, ⟨2, 0, 0, 0, 0, 0, 0, 0⟩, 32, 9, 0, 2, true⟩
def plB : List Pl.Back := [⟨1, 5, 8080, 1, true, false⟩]
theorem plPF : Pl.PF plB 0 0 := by
  unfold Pl.PF
  rw [if_neg (by decide)]
  refine ⟨1, fun j hj => ?_, .inl ⟨rfl, rfl, rfl⟩⟩
  obtain rfl : j = 0 := by omega
  refine ⟨?_, fun m hm => by omega⟩
  show (0 ≤ (1 : Int) ∧ (1 : Int) ≤ 65535) ∧ (0 ≤ (8080 : Int) ∧ (8080 : Int) ≤ 65535) ∧ (0 ≤ (5 : Int) ∧ (5 : Int) < 4294967296) ∧ (0 ≤ (1 : Int) ∧ (1 : Int) ≤ 10)
  omega
theorem plErr : plC.err 0 = 0 := by decide +kernel
theorem plOk : CfgOk plC plB := CfgOk.of plPF plErr
theorem plBest (sc : Pl.Back → Int) : Pl.best sc plB = some ⟨1, 5, 8080, 1, true, false⟩ := by
  show Pl.step sc none ⟨1, 5, 8080, 1, true, false⟩ = _
  unfold Pl.step
  rw [if_pos (by decide)]
/-- The client's segment, and the server's. -/
def sg1 : Sg := ⟨17, 7, 80, 0, 0, 0, 0⟩
def sg2 : Sg := ⟨17, 8080, 1024, 0, 0, 0, 0⟩
abbrev sx1 : Six := ⟨1, 0, 0, 0, 0, 0, 0, 0⟩
abbrev sx3 : Six := ⟨3, 0, 0, 0, 0, 0, 0, 0⟩
def hi : List Int := [104, 105]
theorem hi_isB : Pl.IsB hi := Pl.IsB.of (by decide)
theorem one_sent : SentOk sg1 sx3 sx1 9 hi.length := ⟨Pl.segOk_of (by decide +kernel), by decide, by decide, by omega⟩
theorem one_flow : segFlow ⟨sx3, sx1, 9, sg1.kind⟩ sg1 = ⟨17, sx3, 7, sx1, 80⟩ := rfl
theorem one_g6 : g6 plC plB (PS.zero plC.blocks.toNat) [] 0 (sent6 sg1 sx3 sx1 9 hi) = ⟨0, sent4 (sg1.ports 1024 8080) 9 5 8 hi, (PS.zero plC.blocks.toNat).take sx3, [oneBd ⟨17, sx3, 7, sx1, 80⟩ 5 8080]⟩ := by
  have hv : sixEq (segFlow ⟨sx3, sx1, 9, sg1.kind⟩ sg1).dst plC.vip = true := by decide +kernel
  have hb := plBest (Pl.worth plC.seed (segFlow ⟨sx3, sx1, 9, sg1.kind⟩ sg1))
  refine first_in6 (c := plC) (bs := plB) one_sent (by omega) (by decide) ?_ (by decide) ?_ ?_ ?_ (by omega) (by omega)
  · unfold gWhQ
    rw [if_pos hv]
    exact if_pos rfl
  · unfold gToQ
    rw [if_pos hv, hb]
    rfl
  · unfold gToA
    rw [if_pos hv, hb]
    rfl
  · unfold gToD
    rw [if_pos hv, hb]
    rfl
theorem one_back : BackOk sg2 5 9 9 ([] : List Int).length := ⟨Pl.segOk_of (by decide +kernel), by omega, by omega, by omega⟩
theorem one_out : BackOk (sg1.ports 1024 8080) 9 5 8 hi.length := ⟨Pl.segOk_of (by decide +kernel), by omega, by omega, by omega⟩
theorem one_g4 (p : PS) : g4 plC p [oneBd ⟨17, sx3, 7, sx1, 80⟩ 5 8080] 0 5 9 9 17 (body4 sg2 5 9 []) = ⟨0, sent6 (sg2.ports 80 7) sx1 sx3 8 [], p, [oneBd ⟨17, sx3, 7, sx1, 80⟩ 5 8080]⟩ :=
  first_in4 (c := plC) (s := sg2) (D := []) one_back.seg (ttl := 9) (A := 5) (by omega) (f := ⟨17, sx3, 7, sx1, 80⟩) rfl rfl p
theorem one_last : SentOk (sg2.ports 80 7) sx1 sx3 8 ([] : List Int).length := ⟨Pl.segOk_of (by decide +kernel), by decide, by decide, by omega⟩
/-- What the call has made is changed alone. -/
theorem Ext.kpAll {w W V : World} {G : GG} (h : Ext w W) (hG : ∀ g ∈ G.all, w.heap.size ≤ g) (k : Kp G.T.mut W V) : Ext w V :=
  Below.trans h (k.below h.size (fun g hg => hG g (by simp [GG.all, TG.mut_all _ _ hg])))
set_option maxRecDepth 100000 in
set_option maxHeartbeats 2000000 in
theorem plain_any (w : World) : Calls Tryz.prog 13 #[] w fun e w' => ∃ g, e = .returned (plC.v (.slice (some ⟨g, 0, none⟩) 1 1)) ∧ Backs w' (some ⟨g, 0, none⟩) 1 plB ∧ Ext w w' := by
  have KX := Blk.new w 26 #[.int .i64 0, .int .i64 0, .int .i64 0, .int .i64 0, .int .i64 0, .int .i64 0, .int .i64 0, .int .i64 0, .int .i64 0, .int .i64 0, .int .i64 0, .int .i64 0, .int .i64 0, .int .i64 0, .int .i64 0, .int .i64 0, .int .i64 0, .int .i64 0, .int .i64 0, .int .i64 0, .int .i64 0, .bool false, .slice none 0 0]
  have E0 := (Ext.refl w).alloc (.cells #[.int .i64 0, .int .i64 0, .int .i64 0, .int .i64 0, .int .i64 0, .int .i64 0, .int .i64 0, .int .i64 0, .int .i64 0, .int .i64 0, .int .i64 0, .int .i64 0, .int .i64 0, .int .i64 0, .int .i64 0, .int .i64 0, .int .i64 0, .int .i64 0, .int .i64 0, .int .i64 0, .int .i64 0, .bool false, .slice none 0 0] 26)
  have KB := Blk.at (n := w.heap.size + 1) (w.alloc (.cells #[.int .i64 0, .int .i64 0, .int .i64 0, .int .i64 0, .int .i64 0, .int .i64 0, .int .i64 0, .int .i64 0, .int .i64 0, .int .i64 0, .int .i64 0, .int .i64 0, .int .i64 0, .int .i64 0, .int .i64 0, .int .i64 0, .int .i64 0, .int .i64 0, .int .i64 0, .int .i64 0, .int .i64 0, .bool false, .slice none 0 0] 26)) 34 #[.int .i64 1, .int .i64 5, .int .i64 8080, .int .i64 1, .bool true, .bool false] (by simp)
  have E1 := E0.alloc (.cells #[.int .i64 1, .int .i64 5, .int .i64 8080, .int .i64 1, .bool true, .bool false] 34)
  have KX1 := KX.alloc (.cells #[.int .i64 1, .int .i64 5, .int .i64 8080, .int .i64 1, .bool true, .bool false] 34)
  have st : (Instr.storeAt 26 (.pointer (some ⟨w.heap.size, 0, none⟩)) (.agg #[.int .i64 1, .int .i64 0, .int .i64 0, .int .i64 0, .int .i64 0, .int .i64 0, .int .i64 0, .int .i64 0, .int .i64 80, .int .i64 2, .int .i64 0, .int .i64 0, .int .i64 0, .int .i64 0, .int .i64 0, .int .i64 0, .int .i64 0, .int .i64 32, .int .i64 9, .int .i64 0, .int .i64 2, .bool true, .slice (some ⟨w.heap.size + 1, 0, none⟩) 1 1])).run Tryz.prog _ = .ok () _ :=
    KX1.store (cs := #[.int .i64 1, .int .i64 0, .int .i64 0, .int .i64 0, .int .i64 0, .int .i64 0, .int .i64 0, .int .i64 0, .int .i64 80, .int .i64 2, .int .i64 0, .int .i64 0, .int .i64 0, .int .i64 0, .int .i64 0, .int .i64 0, .int .i64 0, .int .i64 32, .int .i64 9, .int .i64 0, .int .i64 2, .bool true, .slice (some ⟨w.heap.size + 1, 0, none⟩) 1 1]) rfl Tryz.sizeCfg (by simp [Value.oneCell'])
  have KF := KX1.row (plC.cells (.slice (some ⟨w.heap.size + 1, 0, none⟩) 1 1))
  have KB1 := KB.farRow (k := w.heap.size) (by omega) (plC.cells (.slice (some ⟨w.heap.size + 1, 0, none⟩) 1 1))
  have E2 := E1.row (k := w.heap.size) (Nat.le_refl _) (plC.cells (.slice (some ⟨w.heap.size + 1, 0, none⟩) 1 1))
  have HB := Lib.hid (Blk.backs1 (x := ⟨1, 5, 8080, 1, true, false⟩) KB1)
  have HE := Lib.hid E2
  clear KX E0 KB E1 KX1 KB1 E2
  go_enter Tryz.func13, Tryz.ntmps13
  go_wp2_with ((apply store_by rfl _ _ _ rfl _ rfl); (focus (with_reducible assumption)); (focus rfl))
  refine bodyPost_ret (v := plC.v (.slice (some ⟨w.heap.size + 1, 0, none⟩) 1 1)) (results_cell_row Tryz.results13 _ _ w.heap.size 26 _ (0, 0) _ rfl KF Tryz.underlying26 rfl Tryz.sizeCfg) rfl ⟨w.heap.size + 1, rfl, HB.out, HE.out⟩
set_option maxRecDepth 100000 in
set_option maxHeartbeats 4000000 in
theorem one_any (w : World) : Calls Tryz.prog 5 #[] w fun e w' => e = .returned (.bool true) ∧ Ext w w' := by
  go_enter Tryz.func5, Tryz.ntmps5
  go_wp2_with fail
  refine (plain_any w).mono ?_
  rintro e W1 ⟨gb, rfl, B1, E1⟩
  have HN := Lib.hid (gnewW plC (some ⟨gb, 0, none⟩) 1 1 plB 0 0 W1 B1 (Nat.le_refl _) plPF plErr)
  clear B1
  go_wp2_with fail
  refine HN.out.mono ?_
  rintro e W2 ⟨G, rfl, gw2, q2, hG2, hb2⟩
  have E2 := E1.trans q2
  have HG := Lib.hid (show ∀ g ∈ G.all, w.heap.size ≤ g from fun g hg => Nat.le_trans E1.size (hG2 g hg))
  have HGW := Lib.hid gw2
  clear HN E1 q2 gw2 hG2 hb2
  -- the client's packet
  have RH : Ints .u8 (W2.alloc (.cells #[.int .u8 104, .int .u8 105] 5 (2, 3))) (some ⟨W2.heap.size, 0, none⟩) 2 hi := ints_at #[.int .u8 104, .int .u8 105] 5 (2, 3) .u8 hi rfl rfl
  have E3 := E2.alloc (.cells #[.int .u8 104, .int .u8 105] 5 (2, 3))
  have q3 := (Ext.refl W2).alloc (.cells #[.int .u8 104, .int .u8 105] 5 (2, 3))
  have HS := Lib.hid (sent_any sg1 sx3 sx1 9 (some ⟨W2.heap.size, 0, none⟩) 2 2 hi _ RH hi_isB (by unfold maxLen; omega))
  have HX := Lib.hid (show sentX sg1 sx3 sx1 9 hi = sent6 sg1 sx3 sx1 9 hi from if_pos (sentQ_of one_sent))
  rw [HX.out] at HS
  have hz := E2.size
  clear RH HX
  unfold sg1 Six.v at HS
  have hcv : (convert 37 37 (.slice (some ⟨W2.heap.size, 0, none⟩) 2 2)).run Tryz.prog (W2.alloc (.cells #[.int .u8 104, .int .u8 105] 5)) = .ok (.slice (some ⟨W2.heap.size, 0, none⟩) 2 2) (W2.alloc (.cells #[.int .u8 104, .int .u8 105] 5 (2, 3))) := Lib.run_convert_bytes_const (P := Tryz.prog) W2 37 5 #[.int .u8 104, .int .u8 105] 2 2 Tryz.underlying37 Tryz.underlying5
  have HE := Lib.hid (And.intro E3 q3)
  clear E3 q3 E2
  go_wp2_with fail
  refine HS.out.mono ?_
  rintro e W4 ⟨⟨v4, rfl, o4⟩, q4⟩
  obtain ⟨E3, q3⟩ := HE.out
  have E4 := E3.trans q4
  have gw4 := HGW.out.ext (q3.trans q4)
  obtain ⟨a4, n4, c4', rfl, hn4, r4, _⟩ := o4.readn
  have hh : gHead plC (segFlow (Pl.dec6 (sent6 sg1 sx3 sx1 9 hi)) (g6sg (sent6 sg1 sx3 sx1 9 hi))) = false := by
    rw [sent6_dec, one_sent.sg]
    decide +kernel
  have HI := Lib.hid (gin6_any G plC plB _ _ 0 a4 n4 c4' _ W4 gw4 plOk r4 (one_sent.isB hi_isB) hn4 hh)
  have hg6 := one_g6
  unfold sg1 at hg6
  rw [hg6] at HI
  clear hg6
  clear HS HE E3 q3 q4 o4 r4 gw4 hh HGW
  go_wp2_with fail
  refine HI.out.mono ?_
  rintro e W5 ⟨⟨v5, rfl, o5⟩, gw5, k5⟩
  rw [erv_zero]
  have E5 := E4.kpAll HG.out k5
  obtain ⟨a5, n5, c5, rfl, hn5, r5, _⟩ := o5.readn
  have HO := Lib.hid (opened_ok (sg1.ports 1024 8080) 9 5 8 hi a5 n5 c5 W5 r5 hi_isB one_out hn5)
  have HGW := Lib.hid gw5
  clear HI E4 k5 o5 r5 gw5
  go_wp2_with fail
  refine HO.out.mono ?_
  rintro e W6 ⟨x1, x2, x3, a6, n6, c6, rfl, _, q6⟩
  have E6 := E5.trans q6
  have gw6 := HGW.out.ext q6
  have HLT := Lib.hid gw6.lt
  have KX := (Blk.new W6 44 (c4 0 0 0 0 0 (.slice none 0 0))).alloc (.cells #[.int .i64 0, .int .i64 0, .int .i64 0, .int .i64 0, .int .i64 0, .int .i64 0, .int .i64 0, .slice none 0 0] 40)
  have KY := Blk.at (n := W6.heap.size + 1) (W6.alloc (.cells (c4 0 0 0 0 0 (.slice none 0 0)) 44)) 40 #[.int .i64 0, .int .i64 0, .int .i64 0, .int .i64 0, .int .i64 0, .int .i64 0, .int .i64 0, .slice none 0 0] (by simp)
  have st := sto4 KX 9 5 8 17 0 x1 x2 x3
  have KX2 := KX.row (c4 9 5 8 17 0 (.slice x1 x2 x3))
  have KY2 := KY.farRow (k := W6.heap.size) (by omega) (c4 9 5 8 17 0 (.slice x1 x2 x3))
  have st2 := sto KY2 (sg1.ports 1024 8080) a6 n6 c6
  have KY3 := KY2.row ((sg1.ports 1024 8080).cells (.slice a6 n6 c6))
  have KX3 := KX2.farRow (k := W6.heap.size + 1) (by omega) ((sg1.ports 1024 8080).cells (.slice a6 n6 c6))
  have q7 := ((((Ext.refl W6).alloc (.cells (c4 0 0 0 0 0 (.slice none 0 0)) 44)).alloc (.cells #[.int .i64 0, .int .i64 0, .int .i64 0, .int .i64 0, .int .i64 0, .int .i64 0, .int .i64 0, .slice none 0 0] 40)).row (k := W6.heap.size) (Nat.le_refl _) (c4 9 5 8 17 0 (.slice x1 x2 x3))).row (k := W6.heap.size + 1) (Nat.le_succ _) ((sg1.ports 1024 8080).cells (.slice a6 n6 c6))
  have f1 : World.cell? _ ⟨W6.heap.size, 1, none⟩ = some (.int .i64 5) := KX3.cells 1
  have f2 : World.cell? _ ⟨W6.heap.size + 1, 2, none⟩ = some (.int .i64 8080) := KY3.cells 2
  have f3 : World.cell? _ ⟨W6.heap.size + 1, 1, none⟩ = some (.int .i64 1024) := KY3.cells 1
  have HE := Lib.hid (And.intro (E6.trans q7) (And.intro (gw6.ext q7) KY3))
  have hz6 := E6.size
  clear KX KY KX2 KY2 KX3 KY3 q7 E6 gw6 q6 E5 HO HGW hz
  go_upto_region 10 with (first | ((apply store_by rfl _ _ _ rfl _ rfl); (focus (with_reducible assumption)); (focus rfl)) | ((apply store_by rfl _ _ _ rfl _ rfl); (focus (exact st2)); (focus rfl)))
  refine at_worldE (fun W => Ext w W ∧ GW W G plC plB ((PS.zero plC.blocks.toNat).take sx3) [oneBd ⟨17, sx3, 7, sx1, 80⟩ 5 8080] 0 ∧ Blk W (W6.heap.size + 1) 40 ((sg1.ports 1024 8080).cells (.slice a6 n6 c6))) HE.out ?_
  clear HE st st2 f1 f2 f3
  rintro W7 ⟨E7, gw7, KY⟩
  generalize hys : W6.heap.size + 1 = ys at *
  have hyw : w.heap.size ≤ ys := by omega
  have HNM := Lib.hid (show ∀ k, k ∈ G.T.mut → k = ys → False from fun k hk he => by
    have := HLT.out k (by simp [GG.all, TG.mut_all _ _ hk])
    omega)
  clear hys
  have HB := Lib.hid (back_ok sg2 5 9 9 none 0 0 [] W7 Ints.nil Pl.IsB.nil one_back)
  unfold sg2 at HB
  go_wp2_with fail
  refine HB.out.mono ?_
  rintro e W8 ⟨⟨v8, rfl, o8⟩, q8⟩
  have E8 := E7.trans q8
  have gw8 := gw7.ext q8
  have KY8 := KY.ext q8
  obtain ⟨a8, n8, c8, rfl, hn8, r8, _⟩ := o8.readn
  have HI := Lib.hid (gin4_pk G plC plB _ _ 0 a8 n8 c8 5 9 9 17 0 (body4 sg2 5 9 []) W8 gw8 r8 one_back.ok4 (one_back.body_isB Pl.IsB.nil) one_back.small hn8)
  have hg4 := one_g4
  unfold sg2 at hg4
  try unfold sg2 at HI
  rw [hg4] at HI
  clear hg4
  clear HB q8 o8 r8 gw8 gw7 E7 KY
  go_wp2_with fail
  refine HI.out.mono ?_
  rintro e W9 ⟨⟨v9, rfl, o9⟩, _, k9⟩
  rw [erv_zero]
  have E9 := E8.kpAll HG.out k9
  have hyl := KY8.lt
  have KY9 : Blk W9 ys 40 ((sg1.ports 1024 8080).cells (.slice a6 n6 c6)) := KY8.kp k9 (fun hm => HNM.out ys hm rfl)
  obtain ⟨a9, n9, c9, rfl, hn9, r9, _⟩ := o9.readn
  have HO := Lib.hid (opened6_ok (sg2.ports 80 7) sx1 sx3 8 [] a9 n9 c9 W9 r9 Pl.IsB.nil one_last hn9)
  clear HI E8 k9 o9 r9 KY8
  go_wp2_with fail
  refine HO.out.mono ?_
  rintro e W10 ⟨x1, x2, x3, a10, n10, c10, rfl, _, q10⟩
  have E10 := E9.trans q10
  have KY10 := KY9.ext q10
  have hyl10 := KY10.lt
  have KX := Blk.new W10 61 #[.int .i64 0, .int .i64 0, .int .i64 0, .int .i64 0, .int .i64 0, .int .i64 0, .int .i64 0, .int .i64 0, .int .i64 0, .int .i64 0, .int .i64 0, .int .i64 0, .int .i64 0, .int .i64 0, .int .i64 0, .int .i64 0, .int .i64 0, .int .i64 0, .slice none 0 0]
  have st := sto6l KX ⟨sx1, sx3, 8, 17⟩ x1 x2 x3
  have KX2 := KX.row ((⟨sx1, sx3, 8, 17⟩ : P6).cells (.slice x1 x2 x3))
  have KY11 := (KY10.alloc (.cells #[.int .i64 0, .int .i64 0, .int .i64 0, .int .i64 0, .int .i64 0, .int .i64 0, .int .i64 0, .int .i64 0, .int .i64 0, .int .i64 0, .int .i64 0, .int .i64 0, .int .i64 0, .int .i64 0, .int .i64 0, .int .i64 0, .int .i64 0, .int .i64 0, .slice none 0 0] 61)).farRow (k := W10.heap.size) (by omega) ((⟨sx1, sx3, 8, 17⟩ : P6).cells (.slice x1 x2 x3))
  have st2 : (Instr.storeAt 40 (.pointer (some ⟨ys, 0, none⟩)) (.agg ((sg2.ports 80 7).cells (.slice a10 n10 c10)))).run Tryz.prog _ = .ok () _ := KY11.store (cs := (sg2.ports 80 7).cells (.slice a10 n10 c10)) rfl Tryz.sizeSeg (Sg.one _ _ _ _)
  have KY12 := KY11.row ((sg2.ports 80 7).cells (.slice a10 n10 c10))
  have KX3 := KX2.farRow (k := ys) (by omega) ((sg2.ports 80 7).cells (.slice a10 n10 c10))
  have E12 := ((E10.alloc (.cells #[.int .i64 0, .int .i64 0, .int .i64 0, .int .i64 0, .int .i64 0, .int .i64 0, .int .i64 0, .int .i64 0, .int .i64 0, .int .i64 0, .int .i64 0, .int .i64 0, .int .i64 0, .int .i64 0, .int .i64 0, .int .i64 0, .int .i64 0, .int .i64 0, .slice none 0 0] 61)).row (k := W10.heap.size) E10.size ((⟨sx1, sx3, 8, 17⟩ : P6).cells (.slice x1 x2 x3))).row (k := ys) hyw ((sg2.ports 80 7).cells (.slice a10 n10 c10))
  have la : (Instr.loadAt 23 (.pointer (some ⟨W10.heap.size, 0, none⟩))).run Tryz.prog _ = .ok (.agg #[.int .i64 1, .int .i64 0, .int .i64 0, .int .i64 0, .int .i64 0, .int .i64 0, .int .i64 0, .int .i64 0]) _ := KX3.p6src
  have lb : (Instr.loadAt 23 (.pointer (some ⟨W10.heap.size, 8, none⟩))).run Tryz.prog _ = .ok (.agg #[.int .i64 3, .int .i64 0, .int .i64 0, .int .i64 0, .int .i64 0, .int .i64 0, .int .i64 0, .int .i64 0]) _ := KX3.p6dst
  have f2 : World.cell? _ ⟨ys, 2, none⟩ = some (.int .i64 7) := KY12.cells 2
  have e1 : ∀ W, (Op.equalIn 10000 23 (.agg #[.int .i64 1, .int .i64 0, .int .i64 0, .int .i64 0, .int .i64 0, .int .i64 0, .int .i64 0, .int .i64 0]) (.agg #[.int .i64 1, .int .i64 0, .int .i64 0, .int .i64 0, .int .i64 0, .int .i64 0, .int .i64 0, .int .i64 0])).run Tryz.prog W = .ok true W := fun W => six_same sx1 W
  have e3 : ∀ W, (Op.equalIn 10000 23 (.agg #[.int .i64 3, .int .i64 0, .int .i64 0, .int .i64 0, .int .i64 0, .int .i64 0, .int .i64 0, .int .i64 0]) (.agg #[.int .i64 3, .int .i64 0, .int .i64 0, .int .i64 0, .int .i64 0, .int .i64 0, .int .i64 0, .int .i64 0])).run Tryz.prog W = .ok true W := fun W => six_same sx3 W
  have HE := Lib.hid E12
  clear KX KX2 KX3 KY11 KY12 KY10 KY9 E12 E10 E9 q10 HO
  go_wp2_with (first | ((apply load_by rfl _ _ rfl _ rfl); (focus (with_reducible assumption))) | ((apply store_by rfl _ _ _ rfl _ rfl); (focus (with_reducible assumption)); (focus rfl)) | ((apply store_by rfl _ _ _ rfl _ rfl); (focus (exact st2)); (focus rfl)))
  go_returns
  exact ⟨rfl, HE.out⟩
end Go.Proofs.YtbjogkpepfgegaaGreatDoor
