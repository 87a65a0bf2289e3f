/- The statements' own back, opened, opened6: a segment's packet as bytes, and out of them. Conditions: as each lemma states them. -/
import Derived.Test.YtbjogkpepfgegaaGreatDoorK39
import Derived.Test.YtbjogkpepfgegaaGreatDoorK32
import Derived.Test.YtbjogkpepfgegaaGreatDoorK13
import Derived.Test.YtbjogkpepfgegaaGreatDoorK11
import Derived.Deep.RegionHeld3
namespace Go.Proofs.YtbjogkpepfgegaaGreatDoor
open Go.RowKit
/-- Three results, two of them in memory. -/
theorem results_cell3 {fn : Func} {p q r : Tmp} {ty ty2 : TypeId} (h : fn.results = #[.cell p ty, .cell q ty2, .tmp r]) (tmps : Array Value) (w : World) (g : Nat) (t : TypeId) (cs : Array Value) (d : TypeDesc) (g2 : Nat) (t2 : TypeId) (cs2 : Array Value) (d2 : TypeDesc)
    (hp : tmps.getD p undef = .pointer (some ⟨g, 0, none⟩)) (hg : Blk w g t cs) (hq : tmps.getD q undef = .pointer (some ⟨g2, 0, none⟩)) (hg2 : Blk w g2 t2 cs2)
    (hu : Tryz.prog.underlying ty = some d) (hd : d.isRow = true) (hi : (Tryz.prog.info? ty).map (·.size) = some cs.size) (hu2 : Tryz.prog.underlying ty2 = some d2) (hd2 : d2.isRow = true) (hi2 : (Tryz.prog.info? ty2).map (·.size) = some cs2.size) :
    (results fn tmps).run Tryz.prog w = .ok (.tuple #[.agg cs, .agg cs2, tmps.getD r undef]) w := by
  have hp' : tmps[p]?.getD undef = .pointer (some ⟨g, 0, none⟩) := by simpa using hp
  have hq' : tmps[q]?.getD undef = .pointer (some ⟨g2, 0, none⟩) := by simpa using hq
  simp [results, h, hp', hq', asAddr, run_loadVar_row w g t ty cs (0, 0) d hg hu (by cases d <;> simp_all [TypeDesc.isRow]) hi, run_loadVar_row w g2 t2 ty2 cs2 (0, 0) d2 hg2 hu2 (by cases d2 <;> simp_all [TypeDesc.isRow]) hi2]
theorem sdec_enc (s : Sg) (a : Option Addr) (n c : Nat) (D : List Int) (over : Int) (w : World) (hs : Pl.SegOk s D.length) (hD : Pl.IsB D) (ho : Pl.Word over) (hr : Ints .u8 w a n (Pl.segBytes s (Pl.segCheck s over D) D)) (hnc : n ≤ c) (hc : a = none → c = 0) :
    Calls Tryz.prog 37 #[.int .i64 s.kind, .slice a n c, .int .i64 over] w fun e w' => ∃ a' n' c', e = .returned (.tuple #[s.v (.slice a' n' c'), .nilIface]) ∧ Own w' w.heap.size (.slice a' n' c') D ∧ Ext w w' := by
  refine (sdecode_any s.kind a n c _ over w hr (Pl.segBytes_isB hs (Pl.segCheck_bd _ _ _) hD) hnc hc).mono ?_
  rintro e w' ⟨v', rfl, o, q⟩
  have hq := Pl.segQ_enc hs ho
  have hv : Pl.segV s.kind (Pl.segBytes s (Pl.segCheck s over D) D) over = s := by unfold Pl.segV; rw [if_pos hq]; exact Pl.segBytes_dec hs
  have hd : Pl.segD s.kind (Pl.segBytes s (Pl.segCheck s over D) D) over = D := by unfold Pl.segD; rw [if_pos hq]; exact Pl.segBytes_drop hs.1
  rw [hv, hq]
  rw [hd] at o
  obtain ⟨a', n', c', rfl, _, _⟩ := o.read
  exact ⟨a', n', c', rfl, o, q⟩
/-- A server's segment's packet that may be. -/
structure BackOk (s : Sg) (src dst ttl : Int) (n : Nat) : Prop where
  seg : Pl.SegOk s n
  src : 0 ≤ src ∧ src < 4294967296
  dst : 0 ≤ dst ∧ dst < 4294967296
  ttl : 0 ≤ ttl ∧ ttl ≤ 255
section
variable {s : Sg} {src dst ttl : Int} {D : List Int}
theorem BackOk.ok4 {n : Nat} (h : BackOk s src dst ttl n) : Pl.Ok4 src dst ttl s.kind 0 := ⟨h.src, h.dst, h.ttl, by rcases h.seg.1 with hk | hk <;> omega, by omega, by omega⟩
theorem BackOk.small (h : BackOk s src dst ttl D.length) : (body4 s src dst D).length ≤ 320 := by
  rw [SentOk.len4 h.seg]
  have := Pl.segSize_le s.kind
  have := SegOk.data h.seg
  omega
theorem BackOk.body_isB (h : BackOk s src dst ttl D.length) (hD : Pl.IsB D) : Pl.IsB (body4 s src dst D) := Pl.segBytes_isB h.seg (Pl.segCheck_bd _ _ _) hD
end
set_option maxRecDepth 100000 in
set_option maxHeartbeats 4000000 in
theorem back_ok (s : Sg) (src dst ttl : Int) (a : Option Addr) (n c : Nat) (xs : List Int) (w : World) (hr : Ints .u8 w a n xs) (hb : Pl.IsB xs) (hk : BackOk s src dst ttl n) :
    Calls Tryz.prog 17 #[s.v (.slice a n c), .int .i64 src, .int .i64 dst, .int .i64 ttl] w fun e w' => (∃ v, e = .returned v ∧ Own w' w.heap.size v (sent4 s src dst ttl xs)) ∧ Ext w w' := by
  have KS := Blk.new w 40 (s.cells (.slice a n c))
  have E0 : Ext w _ := (Ext.refl w).alloc (.cells (s.cells (.slice a n c)) 40)
  have HR := Lib.hid hr
  have HB := Lib.hid hb
  have hl := hr.len
  have HK := Lib.hid hk
  have HO4 := Lib.hid (fun (W : World) => over4_seg s src dst n W hk.seg hk.src hk.dst)
  have h3 := Pl.segSize_le s.kind
  have h4 := SegOk.data hk.seg
  have HEN := Lib.hid (fun (W : World) (q : Ext w W) => enc_seg s a n c xs (ov4 s src dst n) W hk.seg (hr.ext q) hb val4_word)
  have HBD := Lib.hid (show Pl.segBytes s (Pl.segCheck s (ov4 s src dst n) xs) xs = body4 s src dst xs by unfold body4; rw [hl])
  have HSM := Lib.hid (show (body4 s src dst xs).length ≤ 320 from by
    have := hk
    rw [← hl] at this
    exact this.small)
  clear hr hb hk
  generalize ov4 s src dst n = O at *
  go_enter Tryz.func17, Tryz.ntmps17
  go_upto_region 2 with (fail)
  refine at_worldE (fun W => Ext w W ∧ Blk W w.heap.size 40 (s.cells (.slice a n c))) ⟨E0, KS⟩ ?_
  clear E0 KS
  rintro W1 ⟨E1, KS⟩
  obtain ⟨c0, _, _, _, _, _, _, c7⟩ := KS.sg
  go_upto_if 16 with (fail)
  go_cut [9] (fun v wc => W1 = wc ∧ v = .int .i64 (Pl.segSize s.kind : Nat))
  case first =>
    by_cases hk : s.kind = 6
    · have hb : (s.kind == 6) = true := by simp [hk]
      have HS := Lib.hid (show Pl.segSize s.kind = 20 by unfold Pl.segSize; rw [if_pos hk])
      clear hk
      go_wp2_with fail
      go_meet
      exact ⟨rfl, by rw [HS.out]; rfl⟩
    · have hb : (s.kind == 6) = false := by simp [hk]
      have HS := Lib.hid (show Pl.segSize s.kind = 8 by unfold Pl.segSize; rw [if_neg hk])
      clear hk
      go_wp2_with fail
      go_meet
      exact ⟨rfl, by rw [HS.out]; rfl⟩
  obtain ⟨rfl, rfl⟩ := hcut
  generalize hZ : Pl.segSize s.kind = Z at *
  have ew : IntKind.i64.wrap ((Z : Int) + (n : Int)) = (Z : Int) + (n : Int) := IntWalk.i64_in _ (by omega)
  go_wp2_with fail
  refine (HO4.out _).mono ?_
  rintro e W2 ⟨rfl, q2⟩
  have E2 := E1.trans q2
  replace KS := KS.ext q2
  clear E1 q2 c0 c7
  have ld := KS.seg
  go_wp2_with ((apply load_by rfl _ _ rfl _ rfl); (focus (with_reducible assumption)))
  refine (HEN.out W2 E2).mono ?_
  rintro e W3 ⟨a3, n3, c3, rfl, o3, q3⟩
  rw [HBD.out] at o3
  have E3 := E2.trans q3
  have hs3 := E3.size
  obtain ⟨_, _, _, hv3, hn3, r3, _⟩ := o3.readn
  cases hv3
  have hl3 := r3.len
  have hle : n3 ≤ 320 := by rw [← hl3]; exact HSM.out
  have c0 : W3.cell? ⟨w.heap.size, 0, none⟩ = some (.int .i64 s.kind) := (KS.ext q3).cells 0
  have HC := Lib.hid (encode4_ok src dst ttl s.kind 0 a3 n3 c3 (body4 s src dst xs) W3 HK.out.ok4 hle r3)
  have HE := Lib.hid E3
  clear ld E2 q3 KS o3 r3 E3
  unfold pk4 at HC
  go_wp2_with ((apply load_by rfl _ _ rfl _ rfl); (focus (with_reducible assumption)))
  refine HC.out.mono ?_
  rintro e W4 ⟨v4, rfl, o4, b4⟩
  have q4 : Ext W3 W4 := b4
  have HO := Lib.hid (o4.mono hs3)
  clear o4 b4
  go_wp2_with fail
  go_returns
  exact ⟨⟨v4, rfl, HO.out⟩, HE.out.trans q4⟩
set_option maxRecDepth 100000 in
set_option maxHeartbeats 4000000 in
theorem opened_ok (s : Sg) (src dst ttl : Int) (D : List Int) (a : Option Addr) (n c : Nat) (w : World) (hr : Ints .u8 w a n (sent4 s src dst ttl D)) (hD : Pl.IsB D) (hk : BackOk s src dst ttl D.length) (hnc : n ≤ c) :
    Calls Tryz.prog 11 #[.slice a n c] w fun e w' => ∃ a1 n1 c1 a2 n2 c2, e = .returned (.tuple #[.agg (c4 src dst ttl s.kind 0 (.slice a1 n1 c1)), .agg (s.cells (.slice a2 n2 c2)), .bool true]) ∧ Own w' w.heap.size (.slice a2 n2 c2) D ∧ Ext w w' := by
  have KA := (Blk.new w 44 (c4 0 0 0 0 0 (.slice none 0 0))).alloc (.cells #[.int .i64 0, .int .i64 0, .int .i64 0, .int .i64 0, .int .i64 0, .int .i64 0, .int .i64 0, .slice none 0 0] 40)
  have KB := Blk.at (n := w.heap.size + 1) (w.alloc (.cells (c4 0 0 0 0 0 (.slice none 0 0)) 44)) 40 #[.int .i64 0, .int .i64 0, .int .i64 0, .int .i64 0, .int .i64 0, .int .i64 0, .int .i64 0, .slice none 0 0] (by simp)
  have E0 := ((Ext.refl w).alloc (.cells (c4 0 0 0 0 0 (.slice none 0 0)) 44)).alloc (.cells #[.int .i64 0, .int .i64 0, .int .i64 0, .int .i64 0, .int .i64 0, .int .i64 0, .int .i64 0, .slice none 0 0] 40)
  have HK := Lib.hid hk
  have HD := Lib.hid hD
  have HC := Lib.hid (fun W (q : Ext w W) => decode4_enc a n c src dst ttl s.kind 0 (body4 s src dst D) W (hr.ext q) hk.ok4 (hk.body_isB hD) hk.small hnc)
  have HL := Lib.hid (show (body4 s src dst D).length = Pl.segSize s.kind + D.length from SentOk.len4 hk.seg)
  have HB := Lib.hid (show body4 s src dst D = Pl.segBytes s (Pl.segCheck s (val4 src dst s.kind ((Pl.segSize s.kind : Int) + (D.length : Int))) D) D from rfl)
  have HSM := Lib.hid hk.small
  clear hr hD hk
  go_enter Tryz.func11, Tryz.ntmps11
  go_wp2_with fail
  refine (HC.out _ E0).mono ?_
  rintro e W1 ⟨a1, n1, c1, rfl, o1, b1⟩
  have q1 : Ext _ W1 := b1
  have E1 := E0.trans q1
  obtain ⟨_, _, _, hv1, hn1, r1, hc1⟩ := o1.readn
  cases hv1
  have hl1 := r1.len
  have KX := Blk.new W1 44 (c4 0 0 0 0 0 (.slice none 0 0))
  have st := sto4 KX src dst ttl s.kind 0 a1 n1 c1
  have hk1 := (KB.ext q1).lt
  have KP := KX.row (c4 src dst ttl s.kind 0 (.slice a1 n1 c1))
  have E2 := (E1.alloc (.cells (c4 0 0 0 0 0 (.slice none 0 0)) 44)).row E1.size (c4 src dst ttl s.kind 0 (.slice a1 n1 c1))
  have KA2 := ((KA.ext q1).alloc (.cells (c4 0 0 0 0 0 (.slice none 0 0)) 44)).farRow (k := W1.heap.size) (by omega) (c4 src dst ttl s.kind 0 (.slice a1 n1 c1))
  have KB2 := ((KB.ext q1).alloc (.cells (c4 0 0 0 0 0 (.slice none 0 0)) 44)).farRow (k := W1.heap.size) (by omega) (c4 src dst ttl s.kind 0 (.slice a1 n1 c1))
  have r2 := Ints.keepRow (r1.ext ((Ext.refl W1).alloc (.cells (c4 0 0 0 0 0 (.slice none 0 0)) 44))) W1.heap.size (c4 src dst ttl s.kind 0 (.slice a1 n1 c1)) (fun h0 p hp => by
    obtain ⟨b, o, rfl, hb, _⟩ := r1.at h0
    cases hp
    show b ≠ _
    omega)
  unfold pk4
  clear KX q1 b1 o1 r1 HC KA KB E0 E1
  go_upto_region 4 with ((apply store_by rfl _ _ _ rfl _ rfl); (focus (with_reducible assumption)); (focus rfl))
  refine at_worldE (fun W => Ext w W ∧ Blk W w.heap.size 44 (c4 0 0 0 0 0 (.slice none 0 0)) ∧ Blk W (w.heap.size + 1) 40 #[.int .i64 0, .int .i64 0, .int .i64 0, .int .i64 0, .int .i64 0, .int .i64 0, .int .i64 0, .slice none 0 0] ∧ Blk W W1.heap.size 44 (c4 src dst ttl s.kind 0 (.slice a1 n1 c1)) ∧ Ints .u8 W a1 n1 (body4 s src dst D)) ⟨E2, KA2, KB2, KP, r2⟩ ?_
  clear E2 KA2 KB2 KP r2 st
  rintro W2 ⟨E2, KA, KB, KP, r2⟩
  generalize W1.heap.size = gp at *
  have k0 : W2.cell? ⟨gp, 0, none⟩ = some (.int .i64 src) := KP.cells 0
  have k1 : W2.cell? ⟨gp, 1, none⟩ = some (.int .i64 dst) := KP.cells 1
  have k3 : W2.cell? ⟨gp, 3, none⟩ = some (.int .i64 s.kind) := KP.cells 3
  have k5 : W2.cell? ⟨gp, 5, none⟩ = some (.slice a1 n1 c1) := KP.cells 5
  have HO := Lib.hid (over4_good src dst ttl s.kind 0 n1 W2 HK.out.ok4 (by rw [← hl1]; exact HSM.out))
  have HV := Lib.hid (show val4 src dst s.kind (n1 : Nat) = val4 src dst s.kind ((Pl.segSize s.kind : Int) + (D.length : Int)) by rw [← hl1, HL.out]; rfl)
  have HW := Lib.hid (show Pl.Word (val4 src dst s.kind (n1 : Nat)) from val4_word)
  rw [HB.out, ← HV.out] at r2
  generalize val4 src dst s.kind (n1 : Nat) = O at *
  go_wp2_with fail
  refine HO.out.mono ?_
  rintro e W3 ⟨rfl, q3⟩
  have E3 := E2.trans q3
  replace KA := KA.ext q3
  replace KB := KB.ext q3
  replace KP := KP.ext q3
  clear k0 k1 k3 k5 E2
  have k3 : W3.cell? ⟨gp, 3, none⟩ = some (.int .i64 s.kind) := KP.cells 3
  have k5 : W3.cell? ⟨gp, 5, none⟩ = some (.slice a1 n1 c1) := KP.cells 5
  have hb3 := KB.lt
  have HS := Lib.hid (sdec_enc s a1 n1 c1 D O W3 HK.out.seg HD.out HW.out (r2.ext q3) hn1 hc1)
  clear r2 q3
  go_wp2_with fail
  refine HS.out.mono ?_
  rintro e W4 ⟨a4, n4, c4', rfl, o4, q4⟩
  have hs4 := E3.size
  have E4 := E3.trans q4
  replace KA := KA.ext q4
  replace KB := KB.ext q4
  replace KP := KP.ext q4
  have KX := Blk.new W4 40 #[.int .i64 0, .int .i64 0, .int .i64 0, .int .i64 0, .int .i64 0, .int .i64 0, .int .i64 0, .slice none 0 0]
  have st := sto KX s a4 n4 c4'
  have hp4 := KP.lt
  have hb4 := KB.lt
  have KS := KX.row (s.cells (.slice a4 n4 c4'))
  have E5 := (E4.alloc (.cells #[.int .i64 0, .int .i64 0, .int .i64 0, .int .i64 0, .int .i64 0, .int .i64 0, .int .i64 0, .slice none 0 0] 40)).row E4.size (s.cells (.slice a4 n4 c4'))
  have KA5 := (KA.alloc (.cells #[.int .i64 0, .int .i64 0, .int .i64 0, .int .i64 0, .int .i64 0, .int .i64 0, .int .i64 0, .slice none 0 0] 40)).farRow (k := W4.heap.size) (by omega) (s.cells (.slice a4 n4 c4'))
  have KB5 := (KB.alloc (.cells #[.int .i64 0, .int .i64 0, .int .i64 0, .int .i64 0, .int .i64 0, .int .i64 0, .int .i64 0, .slice none 0 0] 40)).farRow (k := W4.heap.size) (by omega) (s.cells (.slice a4 n4 c4'))
  have KP5 := (KP.alloc (.cells #[.int .i64 0, .int .i64 0, .int .i64 0, .int .i64 0, .int .i64 0, .int .i64 0, .int .i64 0, .slice none 0 0] 40)).farRow (k := W4.heap.size) (by omega) (s.cells (.slice a4 n4 c4'))
  have o5 := (o4.ext ((Ext.refl W4).alloc (.cells #[.int .i64 0, .int .i64 0, .int .i64 0, .int .i64 0, .int .i64 0, .int .i64 0, .int .i64 0, .slice none 0 0] 40))).rowOff (k := W4.heap.size) (fun j hj => by have := (o4.lt j hj).2; omega) (s.cells (.slice a4 n4 c4'))
  have hge := E4.size
  have o6 := o5.mono hs4
  have HO6 := Lib.hid (show ∀ j, (Value.slice a4 n4 c4').ownBlock = some j → w.heap.size + 1 < j from fun j hj => by have := (o4.lt j hj).1; have := hk1; omega)
  clear k3 k5 KX q4 o4 o5 E3 E4 KA KB KP
  go_upto_region 8 with ((apply store_by rfl _ _ _ rfl _ rfl); (focus (with_reducible assumption)); (focus rfl))
  refine at_worldE (fun W => Ext w W ∧ Blk W w.heap.size 44 (c4 0 0 0 0 0 (.slice none 0 0)) ∧ Blk W (w.heap.size + 1) 40 #[.int .i64 0, .int .i64 0, .int .i64 0, .int .i64 0, .int .i64 0, .int .i64 0, .int .i64 0, .slice none 0 0] ∧ Blk W gp 44 (c4 src dst ttl s.kind 0 (.slice a1 n1 c1)) ∧ Blk W W4.heap.size 40 (s.cells (.slice a4 n4 c4')) ∧ Own W w.heap.size (.slice a4 n4 c4') D) ⟨E5, KA5, KB5, KP5, KS, o6⟩ ?_
  clear E5 KA5 KB5 KP5 KS o6 st
  rintro W5 ⟨E5, KA, KB, KP, KS, o6⟩
  have HS0 : (fun V => Blk V gp 44 (c4 src dst ttl s.kind 0 (.slice a1 n1 c1)) ∧ Blk V W4.heap.size 40 (s.cells (.slice a4 n4 c4'))) W5.drew := ⟨Blk.drew KP, Blk.drew KS⟩
  refine wp_region_held_drew (S := (fun V => Blk V gp 44 (c4 src dst ttl s.kind 0 (.slice a1 n1 c1)) ∧ Blk V W4.heap.size 40 (s.cells (.slice a4 n4 c4')))) (by kernel_rfl) HS0 (fun hS0 => ?_)
  clear HS0
  have E6 := E5.drew
  have KA6 := Blk.drew KA
  have KB6 := Blk.drew KB
  have KP6 := Blk.drew KP
  have KS6 := Blk.drew KS
  have o7 := o6.drew
  clear E5 KA KB KP KS o6
  generalize W5.drew = V0 at *
  generalize W4.heap.size = gs at *
  (refine wpAnyH_take (i := 2) (v := ?_) rfl (by kernel_rfl) (by kernel_rfl) (by kernel_rfl) (fun _ _ _ h => h) (Or.inl ⟨by rfl, ?_⟩) (by assumption) ?_; rotate_left; focus (intro w hSw; (try dsimp only at hSw); go_simp; try with_reducible rfl); try simp only [Act.put, List.getElem_toArray, List.getElem_cons_succ, List.getElem_cons_zero, List.setIfInBounds_toArray, List.set_cons_zero, List.set_cons_succ])
  (refine wpAnyH_take (i := 3) (v := ?_) rfl (by kernel_rfl) (by kernel_rfl) (by kernel_rfl) (fun _ _ _ h => h) (Or.inl ⟨by rfl, ?_⟩) (by assumption) ?_; rotate_left; focus (intro w hSw; (try dsimp only at hSw); go_simp; try with_reducible rfl); try simp only [Act.put, List.getElem_toArray, List.getElem_cons_succ, List.getElem_cons_zero, List.setIfInBounds_toArray, List.set_cons_zero, List.set_cons_succ])
  refine wpAnyH_take (i := 0) rfl (by kernel_rfl) (by kernel_rfl) (by kernel_rfl) (fun _ _ _ h => h) (Or.inl ⟨by rfl, fun W hS => exec_load rfl rfl (Blk.p4 hS.1)⟩) (by assumption) ?_
  (try simp only [Act.put, List.getElem_toArray, List.getElem_cons_succ, List.getElem_cons_zero, List.setIfInBounds_toArray, List.set_cons_zero, List.set_cons_succ])
  refine wpAnyH_take (i := 1) rfl (by kernel_rfl) (by kernel_rfl) (by kernel_rfl) (fun _ _ _ h => h) (Or.inl ⟨by rfl, fun W hS => exec_load rfl rfl (Blk.seg hS.2)⟩) (by assumption) ?_
  (try simp only [Act.put, List.getElem_toArray, List.getElem_cons_succ, List.getElem_cons_zero, List.setIfInBounds_toArray, List.set_cons_zero, List.set_cons_succ])
  (refine wpAnyH_ready (rs := [4]) (by kernel_rfl) (by simp) ?_; refine AllReadyH.cons rfl (fun K hK => ?_) AllReadyH.nil)
  rw [if_pos (by rfl)]
  refine wp_store_at _ _ _ rfl _ rfl (sto4 KA6 src dst ttl s.kind 0 a1 n1 c1) rfl ?_
  have KA7 := KA6.row (c4 src dst ttl s.kind 0 (.slice a1 n1 c1))
  have KB7 := KB6.farRow (k := w.heap.size) (by omega) (c4 src dst ttl s.kind 0 (.slice a1 n1 c1))
  have KP7 := KP6.farRow (k := w.heap.size) (by omega) (c4 src dst ttl s.kind 0 (.slice a1 n1 c1))
  have KS7 := KS6.farRow (k := w.heap.size) (by omega) (c4 src dst ttl s.kind 0 (.slice a1 n1 c1))
  have E7 := E6.row (k := w.heap.size) (Nat.le_refl _) (c4 src dst ttl s.kind 0 (.slice a1 n1 c1))
  have o8 := o7.rowOff (k := w.heap.size) (fun j hj => by have := HO6.out j hj; omega) (c4 src dst ttl s.kind 0 (.slice a1 n1 c1))
  refine hK.out _ _ ⟨KP7, KS7⟩ ?_
  clear hK K KA6 KB6 KP6 KS6 E6 o7
  intro hS1
  (try simp only [Act.put, List.getElem_toArray, List.getElem_cons_succ, List.getElem_cons_zero])
  (try simp only [Act.put, List.getElem_toArray, List.getElem_cons_succ, List.getElem_cons_zero, List.setIfInBounds_toArray, List.set_cons_zero, List.set_cons_succ])
  (refine wpAnyH_ready (rs := [5]) (by kernel_rfl) (by simp) ?_; refine AllReadyH.cons rfl (fun K hK => ?_) AllReadyH.nil)
  rw [if_pos (by rfl)]
  refine wp_store_at _ _ _ rfl _ rfl (sto KB7 s a4 n4 c4') rfl ?_
  have KB8 := KB7.row (s.cells (.slice a4 n4 c4'))
  have KA8 := KA7.farRow (k := w.heap.size + 1) (by omega) (s.cells (.slice a4 n4 c4'))
  have KP8 := KP7.farRow (k := w.heap.size + 1) (by omega) (s.cells (.slice a4 n4 c4'))
  have KS8 := KS7.farRow (k := w.heap.size + 1) (by omega) (s.cells (.slice a4 n4 c4'))
  have E8 := E7.row (k := w.heap.size + 1) (Nat.le_succ _) (s.cells (.slice a4 n4 c4'))
  have o9 := o8.rowOff (k := w.heap.size + 1) (fun j hj => by have := HO6.out j hj; omega) (s.cells (.slice a4 n4 c4'))
  refine hK.out _ _ ⟨KP8, KS8⟩ ?_
  clear hK K KA7 KB7 KP7 KS7 E7 o8 KP8 KS8
  intro hS2
  (try simp only [Act.put, List.getElem_toArray, List.getElem_cons_succ, List.getElem_cons_zero])
  (refine wpAnyH_take (i := 6) (v := ?_) rfl (by kernel_rfl) (by kernel_rfl) (by kernel_rfl) (fun _ _ _ h => h) (Or.inl ⟨by rfl, ?_⟩) (by assumption) ?_; rotate_left; focus (intro w hSw; (try dsimp only at hSw); go_simp; try with_reducible rfl); try simp only [Act.put, List.getElem_toArray, List.getElem_cons_succ, List.getElem_cons_zero, List.setIfInBounds_toArray, List.set_cons_zero, List.set_cons_succ])
  (try simp only [Act.put, List.getElem_toArray, List.getElem_cons_succ, List.getElem_cons_zero, List.setIfInBounds_toArray, List.set_cons_zero, List.set_cons_succ])
  refine wpAnyH_done (by kernel_rfl) ?_ _
  have HF := Lib.hid (And.intro E8 o9)
  clear hS0 hS1 hS2 E8 o9
  go_wp2_with fail
  refine bodyPost_ret (results_cell3 Tryz.results11 _ _ w.heap.size 44 (c4 src dst ttl s.kind 0 (.slice a1 n1 c1)) _ (w.heap.size + 1) 40 (s.cells (.slice a4 n4 c4')) _ rfl KA8 rfl KB8 Tryz.underlying44 rfl Tryz.sizeP4 Tryz.underlying40 rfl Tryz.sizeSeg) rfl ⟨a1, n1, c1, a4, n4, c4', rfl, HF.out.2, HF.out.1⟩
theorem dec6_sent (s : Sg) (src dst : Six) (hop : Int) (D : List Int) (a : Option Addr) (n c : Nat) (w : World) (hr : Ints .u8 w a n (sent6 s src dst hop D)) (hD : Pl.IsB D) (hk : SentOk s src dst hop D.length) (hnc : n ≤ c) :
    Calls Tryz.prog 27 #[.slice a n c] w fun e w' => ∃ a' n' c', e = .returned (.tuple #[(⟨src, dst, hop, s.kind⟩ : P6).v (.slice a' n' c'), .nilIface]) ∧ Own w' w.heap.size (.slice a' n' c') (body6 s src dst D) ∧ Ext w w' := by
  refine (decode6_ok a n c _ w hr (hk.isB hD) hnc hk.is6).mono ?_
  rintro e w' ⟨v, rfl, o, q⟩
  rw [sent6_dec]
  rw [sent6_drop] at o
  obtain ⟨a', n', c', rfl, _, _⟩ := o.read
  exact ⟨a', n', c', rfl, o, q⟩
set_option maxRecDepth 100000 in
set_option maxHeartbeats 4000000 in
theorem opened6_ok (s : Sg) (src dst : Six) (hop : Int) (D : List Int) (a : Option Addr) (n c : Nat) (w : World) (hr : Ints .u8 w a n (sent6 s src dst hop D)) (hD : Pl.IsB D) (hk : SentOk s src dst hop D.length) (hnc : n ≤ c) :
    Calls Tryz.prog 18 #[.slice a n c] w fun e w' => ∃ a1 n1 c1 a2 n2 c2, e = .returned (.tuple #[.agg ((⟨src, dst, hop, s.kind⟩ : P6).cells (.slice a1 n1 c1)), .agg (s.cells (.slice a2 n2 c2)), .bool true]) ∧ Own w' w.heap.size (.slice a2 n2 c2) D ∧ Ext w w' := by
  have KA := (Blk.new w 61 #[.int .i64 0, .int .i64 0, .int .i64 0, .int .i64 0, .int .i64 0, .int .i64 0, .int .i64 0, .int .i64 0, .int .i64 0, .int .i64 0, .int .i64 0, .int .i64 0, .int .i64 0, .int .i64 0, .int .i64 0, .int .i64 0, .int .i64 0, .int .i64 0, .slice none 0 0]).alloc (.cells #[.int .i64 0, .int .i64 0, .int .i64 0, .int .i64 0, .int .i64 0, .int .i64 0, .int .i64 0, .slice none 0 0] 40)
  have KB := Blk.at (n := w.heap.size + 1) (w.alloc (.cells #[.int .i64 0, .int .i64 0, .int .i64 0, .int .i64 0, .int .i64 0, .int .i64 0, .int .i64 0, .int .i64 0, .int .i64 0, .int .i64 0, .int .i64 0, .int .i64 0, .int .i64 0, .int .i64 0, .int .i64 0, .int .i64 0, .int .i64 0, .int .i64 0, .slice none 0 0] 61)) 40 #[.int .i64 0, .int .i64 0, .int .i64 0, .int .i64 0, .int .i64 0, .int .i64 0, .int .i64 0, .slice none 0 0] (by simp)
  have E0 := ((Ext.refl w).alloc (.cells #[.int .i64 0, .int .i64 0, .int .i64 0, .int .i64 0, .int .i64 0, .int .i64 0, .int .i64 0, .int .i64 0, .int .i64 0, .int .i64 0, .int .i64 0, .int .i64 0, .int .i64 0, .int .i64 0, .int .i64 0, .int .i64 0, .int .i64 0, .int .i64 0, .slice none 0 0] 61)).alloc (.cells #[.int .i64 0, .int .i64 0, .int .i64 0, .int .i64 0, .int .i64 0, .int .i64 0, .int .i64 0, .slice none 0 0] 40)
  have HK := Lib.hid hk
  have HD := Lib.hid hD
  have HC := Lib.hid (fun W (q : Ext w W) => dec6_sent s src dst hop D a n c W (hr.ext q) hD hk hnc)
  have HL := Lib.hid (show (body6 s src dst D).length = Pl.segSize s.kind + D.length from hk.len)
  have HB := Lib.hid (show body6 s src dst D = Pl.segBytes s (Pl.segCheck s (val6 src dst s.kind ((Pl.segSize s.kind : Int) + (D.length : Int))) D) D from rfl)
  have HSM := Lib.hid hk.small
  clear hr hD hk
  go_enter Tryz.func18, Tryz.ntmps18
  go_wp2_with fail
  refine (HC.out _ E0).mono ?_
  rintro e W1 ⟨a1, n1, c1, rfl, o1, q1⟩
  have E1 := E0.trans q1
  obtain ⟨_, _, _, hv1, hn1, r1, hc1⟩ := o1.readn
  cases hv1
  have hl1 := r1.len
  have KX := Blk.new W1 61 #[.int .i64 0, .int .i64 0, .int .i64 0, .int .i64 0, .int .i64 0, .int .i64 0, .int .i64 0, .int .i64 0, .int .i64 0, .int .i64 0, .int .i64 0, .int .i64 0, .int .i64 0, .int .i64 0, .int .i64 0, .int .i64 0, .int .i64 0, .int .i64 0, .slice none 0 0]
  have st := sto6l KX ⟨src, dst, hop, s.kind⟩ a1 n1 c1
  have hk1 := (KB.ext q1).lt
  have KP := KX.row ((⟨src, dst, hop, s.kind⟩ : P6).cells (.slice a1 n1 c1))
  have E2 := (E1.alloc (.cells #[.int .i64 0, .int .i64 0, .int .i64 0, .int .i64 0, .int .i64 0, .int .i64 0, .int .i64 0, .int .i64 0, .int .i64 0, .int .i64 0, .int .i64 0, .int .i64 0, .int .i64 0, .int .i64 0, .int .i64 0, .int .i64 0, .int .i64 0, .int .i64 0, .slice none 0 0] 61)).row E1.size ((⟨src, dst, hop, s.kind⟩ : P6).cells (.slice a1 n1 c1))
  have KA2 := ((KA.ext q1).alloc (.cells #[.int .i64 0, .int .i64 0, .int .i64 0, .int .i64 0, .int .i64 0, .int .i64 0, .int .i64 0, .int .i64 0, .int .i64 0, .int .i64 0, .int .i64 0, .int .i64 0, .int .i64 0, .int .i64 0, .int .i64 0, .int .i64 0, .int .i64 0, .int .i64 0, .slice none 0 0] 61)).farRow (k := W1.heap.size) (by omega) ((⟨src, dst, hop, s.kind⟩ : P6).cells (.slice a1 n1 c1))
  have KB2 := ((KB.ext q1).alloc (.cells #[.int .i64 0, .int .i64 0, .int .i64 0, .int .i64 0, .int .i64 0, .int .i64 0, .int .i64 0, .int .i64 0, .int .i64 0, .int .i64 0, .int .i64 0, .int .i64 0, .int .i64 0, .int .i64 0, .int .i64 0, .int .i64 0, .int .i64 0, .int .i64 0, .slice none 0 0] 61)).farRow (k := W1.heap.size) (by omega) ((⟨src, dst, hop, s.kind⟩ : P6).cells (.slice a1 n1 c1))
  have r2 := Ints.keepRow (r1.ext ((Ext.refl W1).alloc (.cells #[.int .i64 0, .int .i64 0, .int .i64 0, .int .i64 0, .int .i64 0, .int .i64 0, .int .i64 0, .int .i64 0, .int .i64 0, .int .i64 0, .int .i64 0, .int .i64 0, .int .i64 0, .int .i64 0, .int .i64 0, .int .i64 0, .int .i64 0, .int .i64 0, .slice none 0 0] 61))) W1.heap.size ((⟨src, dst, hop, s.kind⟩ : P6).cells (.slice a1 n1 c1)) (fun h0 p hp => by
    obtain ⟨b, o, rfl, hb, _⟩ := r1.at h0
    cases hp
    show b ≠ _
    omega)
  clear KX q1 o1 r1 HC KA KB E0 E1
  go_upto_region 4 with ((apply store_by rfl _ _ _ rfl _ rfl); (focus (with_reducible assumption)); (focus rfl))
  refine at_worldE (fun W => Ext w W ∧ Blk W w.heap.size 61 #[.int .i64 0, .int .i64 0, .int .i64 0, .int .i64 0, .int .i64 0, .int .i64 0, .int .i64 0, .int .i64 0, .int .i64 0, .int .i64 0, .int .i64 0, .int .i64 0, .int .i64 0, .int .i64 0, .int .i64 0, .int .i64 0, .int .i64 0, .int .i64 0, .slice none 0 0] ∧ Blk W (w.heap.size + 1) 40 #[.int .i64 0, .int .i64 0, .int .i64 0, .int .i64 0, .int .i64 0, .int .i64 0, .int .i64 0, .slice none 0 0] ∧ Blk W W1.heap.size 61 ((⟨src, dst, hop, s.kind⟩ : P6).cells (.slice a1 n1 c1)) ∧ Ints .u8 W a1 n1 (body6 s src dst D)) ⟨E2, KA2, KB2, KP, r2⟩ ?_
  clear E2 KA2 KB2 KP r2 st
  rintro W2 ⟨E2, KA, KB, KP, r2⟩
  generalize W1.heap.size = gp at *
  have la := KP.p6src
  have lb := KP.p6dst
  have k3 : W2.cell? ⟨gp, 17, none⟩ = some (.int .i64 s.kind) := KP.cells 17
  have k5 : W2.cell? ⟨gp, 18, none⟩ = some (.slice a1 n1 c1) := KP.cells 18
  have HO := Lib.hid (over6_good ⟨src, dst, hop, s.kind⟩ n1 W2 HK.out.good (by rw [← hl1]; exact HSM.out))
  have HV := Lib.hid (show val6 src dst s.kind (n1 : Nat) = val6 src dst s.kind ((Pl.segSize s.kind : Int) + (D.length : Int)) by rw [← hl1, HL.out]; rfl)
  have HW := Lib.hid (show Pl.Word (val6 src dst s.kind (n1 : Nat)) from val6_word)
  rw [HB.out, ← HV.out] at r2
  dsimp only at HO
  generalize val6 src dst s.kind (n1 : Nat) = O at *
  unfold Six.v at HO
  go_wp2_with ((apply load_by rfl _ _ rfl _ rfl); (focus (with_reducible assumption)))
  refine HO.out.mono ?_
  rintro e W3 ⟨rfl, q3⟩
  have E3 := E2.trans q3
  replace KA := KA.ext q3
  replace KB := KB.ext q3
  replace KP := KP.ext q3
  clear la lb k3 k5 E2
  have k3 : W3.cell? ⟨gp, 17, none⟩ = some (.int .i64 s.kind) := KP.cells 17
  have k5 : W3.cell? ⟨gp, 18, none⟩ = some (.slice a1 n1 c1) := KP.cells 18
  have hb3 := KB.lt
  have HS := Lib.hid (sdec_enc s a1 n1 c1 D O W3 HK.out.seg HD.out HW.out (r2.ext q3) hn1 hc1)
  clear r2 q3
  go_wp2_with fail
  refine HS.out.mono ?_
  rintro e W4 ⟨a4, n4, c4', rfl, o4, q4⟩
  have hs4 := E3.size
  have E4 := E3.trans q4
  replace KA := KA.ext q4
  replace KB := KB.ext q4
  replace KP := KP.ext q4
  have KX := Blk.new W4 40 #[.int .i64 0, .int .i64 0, .int .i64 0, .int .i64 0, .int .i64 0, .int .i64 0, .int .i64 0, .slice none 0 0]
  have st := sto KX s a4 n4 c4'
  have hp4 := KP.lt
  have hb4 := KB.lt
  have KS := KX.row (s.cells (.slice a4 n4 c4'))
  have E5 := (E4.alloc (.cells #[.int .i64 0, .int .i64 0, .int .i64 0, .int .i64 0, .int .i64 0, .int .i64 0, .int .i64 0, .slice none 0 0] 40)).row E4.size (s.cells (.slice a4 n4 c4'))
  have KA5 := (KA.alloc (.cells #[.int .i64 0, .int .i64 0, .int .i64 0, .int .i64 0, .int .i64 0, .int .i64 0, .int .i64 0, .slice none 0 0] 40)).farRow (k := W4.heap.size) (by omega) (s.cells (.slice a4 n4 c4'))
  have KB5 := (KB.alloc (.cells #[.int .i64 0, .int .i64 0, .int .i64 0, .int .i64 0, .int .i64 0, .int .i64 0, .int .i64 0, .slice none 0 0] 40)).farRow (k := W4.heap.size) (by omega) (s.cells (.slice a4 n4 c4'))
  have KP5 := (KP.alloc (.cells #[.int .i64 0, .int .i64 0, .int .i64 0, .int .i64 0, .int .i64 0, .int .i64 0, .int .i64 0, .slice none 0 0] 40)).farRow (k := W4.heap.size) (by omega) (s.cells (.slice a4 n4 c4'))
  have o5 := (o4.ext ((Ext.refl W4).alloc (.cells #[.int .i64 0, .int .i64 0, .int .i64 0, .int .i64 0, .int .i64 0, .int .i64 0, .int .i64 0, .slice none 0 0] 40))).rowOff (k := W4.heap.size) (fun j hj => by have := (o4.lt j hj).2; omega) (s.cells (.slice a4 n4 c4'))
  have hge := E4.size
  have o6 := o5.mono hs4
  have HO6 := Lib.hid (show ∀ j, (Value.slice a4 n4 c4').ownBlock = some j → w.heap.size + 1 < j from fun j hj => by have := (o4.lt j hj).1; have := hk1; omega)
  clear k3 k5 KX q4 o4 o5 E3 E4 KA KB KP
  go_upto_region 8 with ((apply store_by rfl _ _ _ rfl _ rfl); (focus (with_reducible assumption)); (focus rfl))
  refine at_worldE (fun W => Ext w W ∧ Blk W w.heap.size 61 #[.int .i64 0, .int .i64 0, .int .i64 0, .int .i64 0, .int .i64 0, .int .i64 0, .int .i64 0, .int .i64 0, .int .i64 0, .int .i64 0, .int .i64 0, .int .i64 0, .int .i64 0, .int .i64 0, .int .i64 0, .int .i64 0, .int .i64 0, .int .i64 0, .slice none 0 0] ∧ Blk W (w.heap.size + 1) 40 #[.int .i64 0, .int .i64 0, .int .i64 0, .int .i64 0, .int .i64 0, .int .i64 0, .int .i64 0, .slice none 0 0] ∧ Blk W gp 61 ((⟨src, dst, hop, s.kind⟩ : P6).cells (.slice a1 n1 c1)) ∧ Blk W W4.heap.size 40 (s.cells (.slice a4 n4 c4')) ∧ Own W w.heap.size (.slice a4 n4 c4') D) ⟨E5, KA5, KB5, KP5, KS, o6⟩ ?_
  clear E5 KA5 KB5 KP5 KS o6 st
  rintro W5 ⟨E5, KA, KB, KP, KS, o6⟩
  have HS0 : (fun V => Blk V gp 61 ((⟨src, dst, hop, s.kind⟩ : P6).cells (.slice a1 n1 c1)) ∧ Blk V W4.heap.size 40 (s.cells (.slice a4 n4 c4'))) W5.drew := ⟨Blk.drew KP, Blk.drew KS⟩
  refine wp_region_held_drew (S := (fun V => Blk V gp 61 ((⟨src, dst, hop, s.kind⟩ : P6).cells (.slice a1 n1 c1)) ∧ Blk V W4.heap.size 40 (s.cells (.slice a4 n4 c4')))) (by kernel_rfl) HS0 (fun hS0 => ?_)
  clear HS0
  have E6 := E5.drew
  have KA6 := Blk.drew KA
  have KB6 := Blk.drew KB
  have KP6 := Blk.drew KP
  have KS6 := Blk.drew KS
  have o7 := o6.drew
  clear E5 KA KB KP KS o6
  generalize W5.drew = V0 at *
  generalize W4.heap.size = gs at *
  (refine wpAnyH_take (i := 2) (v := ?_) rfl (by kernel_rfl) (by kernel_rfl) (by kernel_rfl) (fun _ _ _ h => h) (Or.inl ⟨by rfl, ?_⟩) (by assumption) ?_; rotate_left; focus (intro w hSw; (try dsimp only at hSw); go_simp; try with_reducible rfl); try simp only [Act.put, List.getElem_toArray, List.getElem_cons_succ, List.getElem_cons_zero, List.setIfInBounds_toArray, List.set_cons_zero, List.set_cons_succ])
  (refine wpAnyH_take (i := 3) (v := ?_) rfl (by kernel_rfl) (by kernel_rfl) (by kernel_rfl) (fun _ _ _ h => h) (Or.inl ⟨by rfl, ?_⟩) (by assumption) ?_; rotate_left; focus (intro w hSw; (try dsimp only at hSw); go_simp; try with_reducible rfl); try simp only [Act.put, List.getElem_toArray, List.getElem_cons_succ, List.getElem_cons_zero, List.setIfInBounds_toArray, List.set_cons_zero, List.set_cons_succ])
  refine wpAnyH_take (i := 0) rfl (by kernel_rfl) (by kernel_rfl) (by kernel_rfl) (fun _ _ _ h => h) (Or.inl ⟨by rfl, fun W hS => exec_load rfl rfl (Blk.p6 hS.1)⟩) (by assumption) ?_
  (try simp only [Act.put, List.getElem_toArray, List.getElem_cons_succ, List.getElem_cons_zero, List.setIfInBounds_toArray, List.set_cons_zero, List.set_cons_succ])
  refine wpAnyH_take (i := 1) rfl (by kernel_rfl) (by kernel_rfl) (by kernel_rfl) (fun _ _ _ h => h) (Or.inl ⟨by rfl, fun W hS => exec_load rfl rfl (Blk.seg hS.2)⟩) (by assumption) ?_
  (try simp only [Act.put, List.getElem_toArray, List.getElem_cons_succ, List.getElem_cons_zero, List.setIfInBounds_toArray, List.set_cons_zero, List.set_cons_succ])
  (refine wpAnyH_ready (rs := [4]) (by kernel_rfl) (by simp) ?_; refine AllReadyH.cons rfl (fun K hK => ?_) AllReadyH.nil)
  rw [if_pos (by rfl)]
  refine wp_store_at _ _ _ rfl _ rfl (sto6l KA6 ⟨src, dst, hop, s.kind⟩ a1 n1 c1) rfl ?_
  have KA7 := KA6.row ((⟨src, dst, hop, s.kind⟩ : P6).cells (.slice a1 n1 c1))
  have KB7 := KB6.farRow (k := w.heap.size) (by omega) ((⟨src, dst, hop, s.kind⟩ : P6).cells (.slice a1 n1 c1))
  have KP7 := KP6.farRow (k := w.heap.size) (by omega) ((⟨src, dst, hop, s.kind⟩ : P6).cells (.slice a1 n1 c1))
  have KS7 := KS6.farRow (k := w.heap.size) (by omega) ((⟨src, dst, hop, s.kind⟩ : P6).cells (.slice a1 n1 c1))
  have E7 := E6.row (k := w.heap.size) (Nat.le_refl _) ((⟨src, dst, hop, s.kind⟩ : P6).cells (.slice a1 n1 c1))
  have o8 := o7.rowOff (k := w.heap.size) (fun j hj => by have := HO6.out j hj; omega) ((⟨src, dst, hop, s.kind⟩ : P6).cells (.slice a1 n1 c1))
  refine hK.out _ _ ⟨KP7, KS7⟩ ?_
  clear hK K KA6 KB6 KP6 KS6 E6 o7
  intro hS1
  (try simp only [Act.put, List.getElem_toArray, List.getElem_cons_succ, List.getElem_cons_zero])
  (try simp only [Act.put, List.getElem_toArray, List.getElem_cons_succ, List.getElem_cons_zero, List.setIfInBounds_toArray, List.set_cons_zero, List.set_cons_succ])
  (refine wpAnyH_ready (rs := [5]) (by kernel_rfl) (by simp) ?_; refine AllReadyH.cons rfl (fun K hK => ?_) AllReadyH.nil)
  rw [if_pos (by rfl)]
  refine wp_store_at _ _ _ rfl _ rfl (sto KB7 s a4 n4 c4') rfl ?_
  have KB8 := KB7.row (s.cells (.slice a4 n4 c4'))
  have KA8 := KA7.farRow (k := w.heap.size + 1) (by omega) (s.cells (.slice a4 n4 c4'))
  have KP8 := KP7.farRow (k := w.heap.size + 1) (by omega) (s.cells (.slice a4 n4 c4'))
  have KS8 := KS7.farRow (k := w.heap.size + 1) (by omega) (s.cells (.slice a4 n4 c4'))
  have E8 := E7.row (k := w.heap.size + 1) (Nat.le_succ _) (s.cells (.slice a4 n4 c4'))
  have o9 := o8.rowOff (k := w.heap.size + 1) (fun j hj => by have := HO6.out j hj; omega) (s.cells (.slice a4 n4 c4'))
  refine hK.out _ _ ⟨KP8, KS8⟩ ?_
  clear hK K KA7 KB7 KP7 KS7 E7 o8 KP8 KS8
  intro hS2
  (try simp only [Act.put, List.getElem_toArray, List.getElem_cons_succ, List.getElem_cons_zero])
  (refine wpAnyH_take (i := 6) (v := ?_) rfl (by kernel_rfl) (by kernel_rfl) (by kernel_rfl) (fun _ _ _ h => h) (Or.inl ⟨by rfl, ?_⟩) (by assumption) ?_; rotate_left; focus (intro w hSw; (try dsimp only at hSw); go_simp; try with_reducible rfl); try simp only [Act.put, List.getElem_toArray, List.getElem_cons_succ, List.getElem_cons_zero, List.setIfInBounds_toArray, List.set_cons_zero, List.set_cons_succ])
  (try simp only [Act.put, List.getElem_toArray, List.getElem_cons_succ, List.getElem_cons_zero, List.setIfInBounds_toArray, List.set_cons_zero, List.set_cons_succ])
  refine wpAnyH_done (by kernel_rfl) ?_ _
  have HF := Lib.hid (And.intro E8 o9)
  clear hS0 hS1 hS2 E8 o9
  go_wp2_with fail
  refine bodyPost_ret (results_cell3 Tryz.results18 _ _ w.heap.size 61 ((⟨src, dst, hop, s.kind⟩ : P6).cells (.slice a1 n1 c1)) _ (w.heap.size + 1) 40 (s.cells (.slice a4 n4 c4')) _ rfl KA8 rfl KB8 Tryz.underlying61 rfl Tryz.sizeP6 Tryz.underlying40 rfl Tryz.sizeSeg) rfl ⟨a1, n1, c1, a4, n4, c4', rfl, HF.out.2, HF.out.1⟩
end Go.Proofs.YtbjogkpepfgegaaGreatDoor
