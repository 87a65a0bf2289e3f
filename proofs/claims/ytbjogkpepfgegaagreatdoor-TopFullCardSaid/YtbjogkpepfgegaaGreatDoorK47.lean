/- gate.In4, at a gate at which no stream has a head. Conditions: as each lemma states them. -/
import Derived.Test.YtbjogkpepfgegaaGreatDoorK46
namespace Go.Proofs.YtbjogkpepfgegaaGreatDoor
open Go.RowKit
theorem Blk.bdDst {w : World} {g : Nat} {t : TypeId} {b : Bd} (h : Blk w g t b.cells) : (Instr.loadAt 23 (.pointer (some ⟨g, 10, none⟩))).run Tryz.prog w = .ok (.agg #[.int .i64 b.flow.dst.x0, .int .i64 b.flow.dst.x1, .int .i64 b.flow.dst.x2, .int .i64 b.flow.dst.x3, .int .i64 b.flow.dst.x4, .int .i64 b.flow.dst.x5, .int .i64 b.flow.dst.x6, .int .i64 b.flow.dst.x7]) w :=
  h.six 10 b.flow.dst fun j hj => by
    have h : j = 0 ∨ j = 1 ∨ j = 2 ∨ j = 3 ∨ j = 4 ∨ j = 5 ∨ j = 6 ∨ j = 7 := by omega
    rcases h with rfl | rfl | rfl | rfl | rfl | rfl | rfl | rfl <;> rfl
theorem Blk.bdClient {w : World} {g : Nat} {t : TypeId} {b : Bd} (h : Blk w g t b.cells) : (Instr.loadAt 23 (.pointer (some ⟨g, 1, none⟩))).run Tryz.prog w = .ok (.agg #[.int .i64 b.flow.client.x0, .int .i64 b.flow.client.x1, .int .i64 b.flow.client.x2, .int .i64 b.flow.client.x3, .int .i64 b.flow.client.x4, .int .i64 b.flow.client.x5, .int .i64 b.flow.client.x6, .int .i64 b.flow.client.x7]) w :=
  h.six 1 b.flow.client fun j hj => by
    have h : j = 0 ∨ j = 1 ∨ j = 2 ∨ j = 3 ∨ j = 4 ∨ j = 5 ∨ j = 6 ∨ j = 7 := by omega
    rcases h with rfl | rfl | rfl | rfl | rfl | rfl | rfl | rfl <;> rfl
def g4sel (c : Cfg) (S D T : Int) (V : Sg) (L : List Int) (s : PS) (B : List Bd) (now : Int) : Option Bd → GR
  | some x => g4to c S D x T V L s B now
  | none => ⟨4, [], s, B⟩
set_option maxRecDepth 100000 in
set_option maxHeartbeats 4000000 in
theorem gin4_pk (G : GG) (c : Cfg) (bs : List Pl.Back) (s : PS) (B : List Bd) (now : Int) (a : Option Addr) (n cap : Nat) (S D T K I : Int) (b : List Int) (w : World) (h : GW w G c bs s B now) (hr : Ints .u8 w a n (Pl.enc4 S D T K I b)) (h4 : Pl.Ok4 S D T K I) (hb : Pl.IsB b) (hl : b.length ≤ 320) (hnc : n ≤ cap) :
    Calls Tryz.prog 16 #[.pointer (some ⟨G.g, 0, none⟩), .slice a n cap] w (InGot w G c bs now (g4 c s B now S D T K b)) := by
  have HG := Lib.hid (fun w' (E : Ext w w') => h.ext E)
  have HB := Lib.hid hb
  have H4 := Lib.hid h4
  have HLEN := Lib.hid hl
  have HMUT := Lib.hid (fun g (hm : g ∈ G.T.mut) => h.lt g (by simp [GG.all, TG.mut_all _ _ hm]))
  have HSZ := Lib.hid h
  have hgG : G.g < w.heap.size := h.lt _ (by simp [GG.all])
  have hg0 : G.g ∉ G.T.mut := fun hm => by
    have ha := h.apart
    simp only [GG.all, List.nodup_cons] at ha
    exact ha.1 (by simp [TG.mut_all _ _ hm])
  have HC := Lib.hid (decode4_enc a n cap S D T K I b w hr h4 hb hl hnc)
  obtain ⟨t0, t1⟩ := h4.2.2.1
  clear h hr h4 hb hl
  go_enter Tryz.func16, Tryz.ntmps16
  go_wp2_with fail
  refine HC.out.mono ?_
  rintro e W1 ⟨a1, n1, c1, rfl, o1, b1⟩
  have q1 : Ext w W1 := b1
  obtain ⟨_, _, _, hv1, hn1, r1, hc1⟩ := o1.readn
  cases hv1
  have hl1 := r1.len
  have KX := Blk.new W1 44 (c4 0 0 0 0 0 (.slice none 0 0))
  have st := sto4 KX S D T K I a1 n1 c1
  have KP := KX.row (c4 S D T K I (.slice a1 n1 c1))
  have E1 := (q1.alloc (.cells (c4 0 0 0 0 0 (.slice none 0 0)) 44)).row q1.size (c4 S D T K I (.slice a1 n1 c1))
  have hgp : w.heap.size ≤ W1.heap.size := q1.size
  have r2 := Ints.keepRow (r1.ext ((Ext.refl W1).alloc (.cells (c4 0 0 0 0 0 (.slice none 0 0)) 44))) W1.heap.size (c4 S D T K I (.slice a1 n1 c1)) (fun h0 p hp => by
    obtain ⟨b, o, rfl, hb, _⟩ := r1.at h0
    cases hp
    show b ≠ _
    omega)
  unfold pk4
  clear KX q1 o1 r1 HC b1
  go_upto_region 4 with ((apply store_by rfl _ _ _ rfl _ rfl); (focus (with_reducible assumption)); (focus rfl))
  refine at_worldE (fun W => Ext w W ∧ Blk W W1.heap.size 44 (c4 S D T K I (.slice a1 n1 c1)) ∧ Ints .u8 W a1 n1 b) ⟨E1, KP, r2⟩ ?_
  clear E1 KP r2 st
  rintro W2 ⟨E2, KP, r2⟩
  generalize W1.heap.size = gp at *
  have HO := Lib.hid (open4_any S D T K I a1 n1 c1 b W2 H4.out (by rw [← hl1]; exact HLEN.out) r2 HB.out hn1 hc1)
  have HX := Lib.hid (show g4 c s B now S D T K b = if Pl.opQ K b (val4 S D K (n1 : Nat)) = 0 then g4seg c s B now S D T (Pl.decSeg K b) (b.drop (Pl.segSize K)) else ⟨Pl.opQ K b (val4 S D K (n1 : Nat)), [], s, B⟩ by unfold g4; rw [hl1])
  have HQV := Lib.hid (show Pl.opQ K b (val4 S D K (n1 : Nat)) = 0 → Pl.SegOk (Pl.decSeg K b) (b.drop (Pl.segSize K)).length ∧ Pl.IsB (b.drop (Pl.segSize K)) ∧ Pl.opV K b (val4 S D K (n1 : Nat)) = Pl.decSeg K b ∧ Pl.opD K b (val4 S D K (n1 : Nat)) = b.drop (Pl.segSize K) from fun h0 => by
    obtain ⟨_, h2, h3, h4, _⟩ := op_zero HB.out h0
    exact ⟨h4, HB.out.drop _, h2, h3⟩)
  have HKD := Lib.hid (show (Pl.decSeg K b).kind = K from Pl.decSeg_kind _ _)
  unfold OpGot at HO
  generalize Pl.opV K b (val4 S D K (n1 : Nat)) = V at *
  generalize Pl.opD K b (val4 S D K (n1 : Nat)) = L at *
  generalize Pl.opQ K b (val4 S D K (n1 : Nat)) = Q at *
  generalize Pl.decSeg K b = sg at *
  generalize b.drop (Pl.segSize K) = DD at *
  have ld := KP.p4
  go_wp2_with ((apply load_by rfl _ _ rfl _ rfl); (focus (with_reducible assumption)))
  refine HO.out.mono ?_
  rintro e W3 ⟨a3, n3, c3, rfl, o3, q3⟩
  have KX := Blk.new W3 40 #[.int .i64 0, .int .i64 0, .int .i64 0, .int .i64 0, .int .i64 0, .int .i64 0, .int .i64 0, .slice none 0 0]
  have st := sto KX V a3 n3 c3
  have KS := KX.row (V.cells (.slice a3 n3 c3))
  have hgs : gp < W3.heap.size := (KP.ext q3).lt
  have E4 := ((E2.trans q3).alloc (.cells #[.int .i64 0, .int .i64 0, .int .i64 0, .int .i64 0, .int .i64 0, .int .i64 0, .int .i64 0, .slice none 0 0] 40)).row (E2.trans q3).size (V.cells (.slice a3 n3 c3))
  have KP4 := ((KP.ext q3).alloc (.cells #[.int .i64 0, .int .i64 0, .int .i64 0, .int .i64 0, .int .i64 0, .int .i64 0, .int .i64 0, .slice none 0 0] 40)).farRow (k := W3.heap.size) (by omega) (V.cells (.slice a3 n3 c3))
  have o4 := (o3.ext ((Ext.refl W3).alloc (.cells #[.int .i64 0, .int .i64 0, .int .i64 0, .int .i64 0, .int .i64 0, .int .i64 0, .int .i64 0, .slice none 0 0] 40))).rowOff (k := W3.heap.size) (fun j hj => by have := (o3.lt j hj).2; omega) (V.cells (.slice a3 n3 c3))
  have HOD := Lib.hid (show ∀ j, (Value.slice a3 n3 c3).ownBlock = some j → j ≠ W3.heap.size from fun j hj => by have := (o3.lt j hj).2; omega)
  have hg2 : w.heap.size ≤ W2.heap.size := E2.size
  clear KX KP q3 r2 o3 E2 ld HO
  by_cases hq : Q = 0
  case neg =>
    rw [if_neg hq] at HX
    have HE := Lib.hid E4
    have HQ := Lib.hid (show errv Q = erv Q from (erv_ne hq).symm)
    rw [erv_ne hq]
    unfold errv at HQ ⊢
    clear hq E4 KP4 o4 KS HQV
    go_wp2_with ((apply store_by rfl _ _ _ rfl _ rfl); (focus (with_reducible assumption)); (focus rfl))
    go_returns
    refine inGot_err HX.out ?_ (HG.out _ HE.out) (HE.out.kp _)
    rw [← HQ.out]
    rfl
  rw [if_pos hq] at HX
  obtain ⟨hsok, hDB, rfl, rfl⟩ := HQV.out hq
  have HSO := Lib.hid hsok
  have HDB := Lib.hid hDB
  subst hq
  rw [erv_zero]
  clear HQV hsok hDB
  go_upto_region 7 with ((apply store_by rfl _ _ _ rfl _ rfl); (focus (with_reducible assumption)); (focus rfl))
  refine at_worldE (fun W => Ext w W ∧ Blk W gp 44 (c4 S D T K I (.slice a1 n1 c1)) ∧ Blk W W3.heap.size 40 (V.cells (.slice a3 n3 c3)) ∧ Own W W2.heap.size (.slice a3 n3 c3) L) ⟨E4, KP4, KS, o4⟩ ?_
  clear E4 KP4 KS o4 st
  rintro W4 ⟨E4, KP, KS, oD⟩
  generalize W3.heap.size = gs at *
  have h2c : W4.cell? ⟨gp, 2, none⟩ = some (.int .i64 T) := KP.cells 2
  by_cases hhop : T < 2
  case pos =>
    have HE := Lib.hid E4
    have HY := Lib.hid (show g4seg c s B now S D T V L = ⟨7, [], s, B⟩ by unfold g4seg; rw [if_pos hhop])
    have d1 : decide (T < 2) = true := decide_eq_true hhop
    clear hhop E4 KP KS oD
    go_wp2_with fail
    go_returns
    exact inGot_err (HX.out.trans HY.out) rfl (HG.out _ HE.out) (HE.out.kp _)
  have HY := Lib.hid (show g4seg c s B now S D T V L = g4sel c S D T V L s B now (bNear V.kind V.to B) by unfold g4seg; rw [if_neg hhop]; cases bNear V.kind V.to B <;> rfl)
  have d1 : decide (T < 2) = false := decide_eq_false hhop
  have HHOP := Lib.hid hhop
  clear hhop
  go_upto_region 9 with (fail)
  refine at_worldE (fun W => Ext w W ∧ Blk W gp 44 (c4 S D T K I (.slice a1 n1 c1)) ∧ Blk W gs 40 (V.cells (.slice a3 n3 c3)) ∧ Own W W2.heap.size (.slice a3 n3 c3) L) ⟨E4, KP, KS, oD⟩ ?_
  clear E4 KP KS oD d1 h2c
  rintro W5 ⟨E5, KP, KS, oD⟩
  have HN := Lib.hid (fun V' (E : Ext W5 V') => near_any G.T s B V.kind V.to V' (HG.out V' (E5.trans E)).tab)
  generalize hnn : bNear V.kind V.to B = N at *
  have hx0 : N = none ∨ ∃ x, N = some x ∧ x ∈ B := by
    cases hN : N with
    | none => exact .inl rfl
    | some x =>
      refine .inr ⟨x, rfl, ?_⟩
      rw [hN] at hnn
      unfold bNear at hnn
      exact (findN_some (Option.filter_eq_some_iff.1 hnn).1).1
  clear hnn
  obtain ⟨X, hX⟩ : ∃ X, X = N.getD zeroBd := ⟨_, rfl⟩
  rw [← hX] at HN
  have hXN := Lib.hid hX
  clear hX
  generalize hQN : (if N.isSome = true then (0 : Int) else 4) = QN at *
  have HS := Lib.hid (fun V' (E : Ext W5 V') => (show V'.cell? ⟨G.g, 23, none⟩ = some (.pointer (some ⟨G.T.gT, 0, none⟩)) ∧ V'.cell? ⟨gs, 0, none⟩ = some (.int .i64 V.kind) ∧ V'.cell? ⟨gs, 2, none⟩ = some (.int .i64 V.to) from
    ⟨(HG.out V' (E5.trans E)).nums.2.2.2.2.2.2.1, (KS.ext E).cells 0, (KS.ext E).cells 2⟩))
  have D0 : Ext W5 W5.drew := (Ext.refl W5).drew
  go_cut [9, 7] (fun q er wc => ∃ g, q = .pointer (some ⟨g, 0, none⟩) ∧ er = erv QN ∧ W5.heap.size ≤ g ∧ Blk wc g 52 X.cells ∧ Ext W5 wc)
  case first =>
    have HS0 := HS.out _ D0
    refine wp_region_held_drew (S := (fun V' => V'.cell? ⟨G.g, 23, none⟩ = some (.pointer (some ⟨G.T.gT, 0, none⟩)) ∧ V'.cell? ⟨gs, 0, none⟩ = some (.int .i64 V.kind) ∧ V'.cell? ⟨gs, 2, none⟩ = some (.int .i64 V.to))) (by kernel_rfl) HS0 (fun hS0 => ?_)
    clear HS0
    have D1 := D0
    generalize W5.drew = V1 at *
    (refine wpAnyH_take (i := 0) (v := ?_) rfl (by kernel_rfl) (by kernel_rfl) (by kernel_rfl) (fun _ _ _ h => h) (Or.inl ⟨by rfl, ?_⟩) (by assumption) ?_; rotate_left; focus (intro w hSw; (try dsimp only at hSw); go_simp; try with_reducible rfl); try simp only [Act.put, List.getElem_toArray, List.getElem_cons_succ, List.getElem_cons_zero, List.setIfInBounds_toArray, List.set_cons_zero, List.set_cons_succ])
    (refine wpAnyH_take (i := 1) (v := ?_) rfl (by kernel_rfl) (by kernel_rfl) (by kernel_rfl) (fun _ _ _ h => h) (Or.inl ⟨by rfl, ?_⟩) (by assumption) ?_; rotate_left; focus (intro w hSw; (try dsimp only at hSw); go_simp; try with_reducible rfl); try simp only [Act.put, List.getElem_toArray, List.getElem_cons_succ, List.getElem_cons_zero, List.setIfInBounds_toArray, List.set_cons_zero, List.set_cons_succ])
    (refine wpAnyH_take (i := 2) (v := ?_) rfl (by kernel_rfl) (by kernel_rfl) (by kernel_rfl) (fun _ _ _ h => h) (Or.inl ⟨by rfl, ?_⟩) (by assumption) ?_; rotate_left; focus (intro w hSw; (try dsimp only at hSw); go_simp; try with_reducible rfl); try simp only [Act.put, List.getElem_toArray, List.getElem_cons_succ, List.getElem_cons_zero, List.setIfInBounds_toArray, List.set_cons_zero, List.set_cons_succ])
    (refine wpAnyH_take (i := 4) (v := ?_) rfl (by kernel_rfl) (by kernel_rfl) (by kernel_rfl) (fun _ _ _ h => h) (Or.inl ⟨by rfl, ?_⟩) (by assumption) ?_; rotate_left; focus (intro w hSw; (try dsimp only at hSw); go_simp; try with_reducible rfl); try simp only [Act.put, List.getElem_toArray, List.getElem_cons_succ, List.getElem_cons_zero, List.setIfInBounds_toArray, List.set_cons_zero, List.set_cons_succ])
    (refine wpAnyH_take (i := 6) (v := ?_) rfl (by kernel_rfl) (by kernel_rfl) (by kernel_rfl) (fun _ _ _ h => h) (Or.inl ⟨by rfl, ?_⟩) (by assumption) ?_; rotate_left; focus (intro w hSw; (try dsimp only at hSw); go_simp; try with_reducible rfl); try simp only [Act.put, List.getElem_toArray, List.getElem_cons_succ, List.getElem_cons_zero, List.setIfInBounds_toArray, List.set_cons_zero, List.set_cons_succ])
    (refine wpAnyH_take (i := 3) (v := ?_) rfl (by kernel_rfl) (by kernel_rfl) (by kernel_rfl) (fun _ _ _ h => h) (Or.inl ⟨by rfl, ?_⟩) (by assumption) ?_; rotate_left; focus (intro w hSw; (try dsimp only at hSw); go_simp; try with_reducible rfl); try simp only [Act.put, List.getElem_toArray, List.getElem_cons_succ, List.getElem_cons_zero, List.setIfInBounds_toArray, List.set_cons_zero, List.set_cons_succ])
    (refine wpAnyH_take (i := 5) (v := ?_) rfl (by kernel_rfl) (by kernel_rfl) (by kernel_rfl) (fun _ _ _ h => h) (Or.inl ⟨by rfl, ?_⟩) (by assumption) ?_; rotate_left; focus (intro w hSw; (try dsimp only at hSw); go_simp; try with_reducible rfl); try simp only [Act.put, List.getElem_toArray, List.getElem_cons_succ, List.getElem_cons_zero, List.setIfInBounds_toArray, List.set_cons_zero, List.set_cons_succ])
    (refine wpAnyH_take (i := 7) (v := ?_) rfl (by kernel_rfl) (by kernel_rfl) (by kernel_rfl) (fun _ _ _ h => h) (Or.inl ⟨by rfl, ?_⟩) (by assumption) ?_; rotate_left; focus (intro w hSw; (try dsimp only at hSw); go_simp; try with_reducible rfl); try simp only [Act.put, List.getElem_toArray, List.getElem_cons_succ, List.getElem_cons_zero, List.setIfInBounds_toArray, List.set_cons_zero, List.set_cons_succ])
    (try simp only [Act.put, List.getElem_toArray, List.getElem_cons_succ, List.getElem_cons_zero, List.setIfInBounds_toArray, List.set_cons_zero, List.set_cons_succ])
    refine wpAnyH_ready (rs := [8, 12]) (by kernel_rfl) (by simp) ?_
    refine AllReadyH.cons rfl (fun K hK => ?_) (AllReadyH.cons rfl (fun K hK => ?_) AllReadyH.nil)
    · go_simp
      go_at_call 42
      refine (HN.out V1 D1).mono ?_
      rintro e V2 ⟨rfl, q⟩
      have D2 := D1.trans q
      refine hK.out _ _ (HS.out _ D2) ?_
      clear hK K
      intro hS1
      (try simp only [Act.put, List.getElem_toArray, List.getElem_cons_succ, List.getElem_cons_zero, List.setIfInBounds_toArray, List.set_cons_zero, List.set_cons_succ])
      (refine wpAnyH_take (i := 9) (v := ?_) rfl (by kernel_rfl) (by kernel_rfl) (by kernel_rfl) (fun _ _ _ h => h) (Or.inl ⟨by rfl, ?_⟩) (by assumption) ?_; rotate_left; focus (intro w hSw; (try dsimp only at hSw); go_simp; try with_reducible rfl); try simp only [Act.put, List.getElem_toArray, List.getElem_cons_succ, List.getElem_cons_zero, List.setIfInBounds_toArray, List.set_cons_zero, List.set_cons_succ])
      (refine wpAnyH_take (i := 10) (v := ?_) rfl (by kernel_rfl) (by kernel_rfl) (by kernel_rfl) (fun _ _ _ h => h) (Or.inl ⟨by rfl, ?_⟩) (by assumption) ?_; rotate_left; focus (intro w hSw; (try dsimp only at hSw); go_simp; try with_reducible rfl); try simp only [Act.put, List.getElem_toArray, List.getElem_cons_succ, List.getElem_cons_zero, List.setIfInBounds_toArray, List.set_cons_zero, List.set_cons_succ])
      (refine wpAnyH_take (i := 11) (v := ?_) rfl (by kernel_rfl) (by kernel_rfl) (by kernel_rfl) (fun _ _ _ h => h) (Or.inl ⟨by rfl, ?_⟩) (by assumption) ?_; rotate_left; focus (intro w hSw; (try dsimp only at hSw); go_simp; try with_reducible rfl); try simp only [Act.put, List.getElem_toArray, List.getElem_cons_succ, List.getElem_cons_zero, List.setIfInBounds_toArray, List.set_cons_zero, List.set_cons_succ])
      (refine wpAnyH_ready (rs := [12]) (by kernel_rfl) (by simp) ?_; refine AllReadyH.cons rfl (fun K hK => ?_) AllReadyH.nil)
      go_simp
      have KG := Blk.new V2 52 #[.int .i64 0, .int .i64 0, .int .i64 0, .int .i64 0, .int .i64 0, .int .i64 0, .int .i64 0, .int .i64 0, .int .i64 0, .int .i64 0, .int .i64 0, .int .i64 0, .int .i64 0, .int .i64 0, .int .i64 0, .int .i64 0, .int .i64 0, .int .i64 0, .int .i64 0, .int .i64 0, .int .i64 0, .int .i64 0, .int .i64 0]
      have D3 := D2.alloc (.cells #[.int .i64 0, .int .i64 0, .int .i64 0, .int .i64 0, .int .i64 0, .int .i64 0, .int .i64 0, .int .i64 0, .int .i64 0, .int .i64 0, .int .i64 0, .int .i64 0, .int .i64 0, .int .i64 0, .int .i64 0, .int .i64 0, .int .i64 0, .int .i64 0, .int .i64 0, .int .i64 0, .int .i64 0, .int .i64 0, .int .i64 0] 52)
      have hge : W5.heap.size ≤ V2.heap.size := D2.size
      refine hK.out _ _ (HS.out _ D3) ?_
      clear hK K
      intro hS2
      clear D2
      generalize V2.alloc (.cells #[.int .i64 0, .int .i64 0, .int .i64 0, .int .i64 0, .int .i64 0, .int .i64 0, .int .i64 0, .int .i64 0, .int .i64 0, .int .i64 0, .int .i64 0, .int .i64 0, .int .i64 0, .int .i64 0, .int .i64 0, .int .i64 0, .int .i64 0, .int .i64 0, .int .i64 0, .int .i64 0, .int .i64 0, .int .i64 0, .int .i64 0] 52) = V3 at *
      generalize V2.heap.size = g at *
      (try simp only [Act.put, List.getElem_toArray, List.getElem_cons_succ, List.getElem_cons_zero, List.setIfInBounds_toArray, List.set_cons_zero, List.set_cons_succ])
      (refine wpAnyH_ready (rs := [13]) (by kernel_rfl) (by simp) ?_; refine AllReadyH.cons rfl (fun K hK => ?_) AllReadyH.nil)
      rw [if_pos (by rfl)]
      refine wp_store_at _ _ _ rfl _ rfl (stoBd KG X) rfl ?_
      have KH := KG.row X.cells
      have D9 := D3.row hge X.cells
      refine hK.out _ _ (HS.out _ D9) ?_
      clear hK K
      intro hS3
      (try simp only [Act.put, List.getElem_toArray, List.getElem_cons_succ, List.getElem_cons_zero])
      (refine wpAnyH_take (i := 14) (v := ?_) rfl (by kernel_rfl) (by kernel_rfl) (by kernel_rfl) (fun _ _ _ h => h) (Or.inl ⟨by rfl, ?_⟩) (by assumption) ?_; rotate_left; focus (intro w hSw; (try dsimp only at hSw); go_simp; try with_reducible rfl); try simp only [Act.put, List.getElem_toArray, List.getElem_cons_succ, List.getElem_cons_zero, List.setIfInBounds_toArray, List.set_cons_zero, List.set_cons_succ])
      (try simp only [Act.put, List.getElem_toArray, List.getElem_cons_succ, List.getElem_cons_zero, List.setIfInBounds_toArray, List.set_cons_zero, List.set_cons_succ])
      refine wpAnyH_done (by kernel_rfl) ?_ _
      go_wp2_with fail
      go_meet
      exact ⟨g, rfl, rfl, hge, KH, D9⟩
    · go_simp
      have KG := Blk.new V1 52 #[.int .i64 0, .int .i64 0, .int .i64 0, .int .i64 0, .int .i64 0, .int .i64 0, .int .i64 0, .int .i64 0, .int .i64 0, .int .i64 0, .int .i64 0, .int .i64 0, .int .i64 0, .int .i64 0, .int .i64 0, .int .i64 0, .int .i64 0, .int .i64 0, .int .i64 0, .int .i64 0, .int .i64 0, .int .i64 0, .int .i64 0]
      have D2 := D1.alloc (.cells #[.int .i64 0, .int .i64 0, .int .i64 0, .int .i64 0, .int .i64 0, .int .i64 0, .int .i64 0, .int .i64 0, .int .i64 0, .int .i64 0, .int .i64 0, .int .i64 0, .int .i64 0, .int .i64 0, .int .i64 0, .int .i64 0, .int .i64 0, .int .i64 0, .int .i64 0, .int .i64 0, .int .i64 0, .int .i64 0, .int .i64 0] 52)
      have hge : W5.heap.size ≤ V1.heap.size := D1.size
      refine hK.out _ _ (HS.out _ D2) ?_
      clear hK K
      intro hS2
      clear D1
      generalize V1.alloc (.cells #[.int .i64 0, .int .i64 0, .int .i64 0, .int .i64 0, .int .i64 0, .int .i64 0, .int .i64 0, .int .i64 0, .int .i64 0, .int .i64 0, .int .i64 0, .int .i64 0, .int .i64 0, .int .i64 0, .int .i64 0, .int .i64 0, .int .i64 0, .int .i64 0, .int .i64 0, .int .i64 0, .int .i64 0, .int .i64 0, .int .i64 0] 52) = V2 at *
      generalize V1.heap.size = g at *
      (try simp only [Act.put, List.getElem_toArray, List.getElem_cons_succ, List.getElem_cons_zero, List.setIfInBounds_toArray, List.set_cons_zero, List.set_cons_succ])
      (refine wpAnyH_ready (rs := [8]) (by kernel_rfl) (by simp) ?_; refine AllReadyH.cons rfl (fun K hK => ?_) AllReadyH.nil)
      go_simp
      go_at_call 42
      refine (HN.out V2 D2).mono ?_
      rintro e V3 ⟨rfl, q⟩
      have D3 := D2.trans q
      replace KG := KG.ext q
      refine hK.out _ _ (HS.out _ D3) ?_
      clear hK K
      intro hS1
      (try simp only [Act.put, List.getElem_toArray, List.getElem_cons_succ, List.getElem_cons_zero, List.setIfInBounds_toArray, List.set_cons_zero, List.set_cons_succ])
      (refine wpAnyH_take (i := 9) (v := ?_) rfl (by kernel_rfl) (by kernel_rfl) (by kernel_rfl) (fun _ _ _ h => h) (Or.inl ⟨by rfl, ?_⟩) (by assumption) ?_; rotate_left; focus (intro w hSw; (try dsimp only at hSw); go_simp; try with_reducible rfl); try simp only [Act.put, List.getElem_toArray, List.getElem_cons_succ, List.getElem_cons_zero, List.setIfInBounds_toArray, List.set_cons_zero, List.set_cons_succ])
      (refine wpAnyH_take (i := 10) (v := ?_) rfl (by kernel_rfl) (by kernel_rfl) (by kernel_rfl) (fun _ _ _ h => h) (Or.inl ⟨by rfl, ?_⟩) (by assumption) ?_; rotate_left; focus (intro w hSw; (try dsimp only at hSw); go_simp; try with_reducible rfl); try simp only [Act.put, List.getElem_toArray, List.getElem_cons_succ, List.getElem_cons_zero, List.setIfInBounds_toArray, List.set_cons_zero, List.set_cons_succ])
      (refine wpAnyH_take (i := 11) (v := ?_) rfl (by kernel_rfl) (by kernel_rfl) (by kernel_rfl) (fun _ _ _ h => h) (Or.inl ⟨by rfl, ?_⟩) (by assumption) ?_; rotate_left; focus (intro w hSw; (try dsimp only at hSw); go_simp; try with_reducible rfl); try simp only [Act.put, List.getElem_toArray, List.getElem_cons_succ, List.getElem_cons_zero, List.setIfInBounds_toArray, List.set_cons_zero, List.set_cons_succ])
      (refine wpAnyH_ready (rs := [13]) (by kernel_rfl) (by simp) ?_; refine AllReadyH.cons rfl (fun K hK => ?_) AllReadyH.nil)
      rw [if_pos (by rfl)]
      refine wp_store_at _ _ _ rfl _ rfl (stoBd KG X) rfl ?_
      have KH := KG.row X.cells
      have D9 := D3.row hge X.cells
      refine hK.out _ _ (HS.out _ D9) ?_
      clear hK K
      intro hS3
      (try simp only [Act.put, List.getElem_toArray, List.getElem_cons_succ, List.getElem_cons_zero])
      (refine wpAnyH_take (i := 14) (v := ?_) rfl (by kernel_rfl) (by kernel_rfl) (by kernel_rfl) (fun _ _ _ h => h) (Or.inl ⟨by rfl, ?_⟩) (by assumption) ?_; rotate_left; focus (intro w hSw; (try dsimp only at hSw); go_simp; try with_reducible rfl); try simp only [Act.put, List.getElem_toArray, List.getElem_cons_succ, List.getElem_cons_zero, List.setIfInBounds_toArray, List.set_cons_zero, List.set_cons_succ])
      (try simp only [Act.put, List.getElem_toArray, List.getElem_cons_succ, List.getElem_cons_zero, List.setIfInBounds_toArray, List.set_cons_zero, List.set_cons_succ])
      refine wpAnyH_done (by kernel_rfl) ?_ _
      go_wp2_with fail
      go_meet
      exact ⟨g, rfl, rfl, hge, KH, D9⟩
  obtain ⟨gx, rfl, rfl, hgx, KB, q6⟩ := hcut
  have E6 := E5.trans q6
  have hs5 := KS.lt
  have hp5 := KP.lt
  replace KP := KP.ext q6
  replace KS := KS.ext q6
  replace oD := oD.ext q6
  clear HS D0 q6 E5 HN
  rcases hx0 with hN | ⟨x, hN, hxB⟩
  · have HY2 := Lib.hid (show g4sel c S D T V L s B now N = ⟨4, [], s, B⟩ by rw [hN]; rfl)
    have hQ4 : QN = 4 := by rw [← hQN, hN]; rfl
    subst hQ4
    have HE := Lib.hid E6
    rw [show erv 4 = errv 4 from rfl]
    unfold errv
    clear hN hQN E6 KP KS oD KB
    go_wp2_with fail
    go_quiet (fail)
    go_wp2_with fail
    go_returns
    exact inGot_err (HX.out.trans (HY.out.trans HY2.out)) rfl (HG.out _ (HE.out.drewN _)) ((HE.out.drewN _).kp _)
  have HY2 := Lib.hid (show g4sel c S D T V L s B now N = g4to c S D x T V L s B now by rw [hN]; rfl)
  have hQ0 : QN = 0 := by rw [← hQN, hN]; rfl
  have hXx : X = x := by rw [hXN.out, hN]; rfl
  subst hQ0
  subst hXx
  rw [erv_zero]
  have HBO := Lib.hid (HSZ.out.bdOk hxB)
  clear hN hQN hXN hxB
  -- who it comes from
  obtain ⟨_, _, n18, _⟩ := (HG.out _ E6).nums
  have k0 : _ = some (Value.int .i64 S) := KP.cells 0
  have k1 : _ = some (Value.int .i64 D) := KP.cells 1
  have k2 : _ = some (Value.int .i64 V.frm) := KS.cells 1
  have k3 : _ = some (Value.int .i64 X.back) := KB.cells 20
  have k4 : _ = some (Value.int .i64 X.far) := KB.cells 21
  have HZ6 := Lib.hid (And.intro E6 (And.intro KP (And.intro KS (And.intro oD KB))))
  clear E6 KP KS oD KB
  by_cases hall : D = c.near ∧ S = X.back ∧ V.frm = X.far
  case neg =>
    have HY3 := Lib.hid (show g4to c S D X T V L s B now = ⟨4, [], s, B⟩ by unfold g4to; rw [if_neg hall])
    have hor : (D != c.near) = true ∨ ((D != c.near) = false ∧ ((S != X.back) = true ∨ ((S != X.back) = false ∧ (V.frm != X.far) = true))) := by
      by_cases h1 : D = c.near
      · by_cases h2 : S = X.back
        · have h3 : V.frm ≠ X.far := fun h3 => hall ⟨h1, h2, h3⟩
          exact .inr ⟨by simp [h1], .inr ⟨by simp [h2], by simp [h3]⟩⟩
        · exact .inr ⟨by simp [h1], .inl (by simp [h2])⟩
      · exact .inl (by simp [h1])
    clear hall
    rcases hor with h1 | ⟨h1, h2 | ⟨h2, h3⟩⟩
    all_goals
      go_wp2_with fail
      go_quiet (fail)
      go_wp2_with fail
      go_returns
      exact inGot_err (HX.out.trans (HY.out.trans (HY2.out.trans HY3.out))) rfl (HG.out _ (HZ6.out.1.drewN _)) ((HZ6.out.1.drewN _).kp _)
  have HY3 := Lib.hid (show g4to c S D X T V L s B now = g4use X T V L s B now by unfold g4to; rw [if_pos hall])
  have h1 : (D != c.near) = false := by simp [hall.1]
  have h2 : (S != X.back) = false := by simp [hall.2.1]
  have h3 : (V.frm != X.far) = false := by simp [hall.2.2]
  clear hall
  go_wp2_with fail
  go_quiet (fail)
  clear h1 h2 h3 k0 k1 k2 k3 k4 n18
  obtain ⟨E6, KP, KS, oD, KB⟩ := HZ6.out
  go_upto_region 12 with (fail)
  refine at_worldE (fun W => Ext w W ∧ Blk W gp 44 (c4 S D T K I (.slice a1 n1 c1)) ∧ Blk W gs 40 (V.cells (.slice a3 n3 c3)) ∧ Own W W2.heap.size (.slice a3 n3 c3) L ∧ Blk W gx 52 X.cells) ⟨E6.drewN _, KP.drewN _, KS.drewN _, oD.drewN _, KB.drewN _⟩ ?_
  clear E6 KP KS oD KB HZ6
  rintro W7 ⟨E7, KP, KS, oD, KB⟩
  have HU := Lib.hid (fun V' (E : Ext W7 V') => use_any G.T s B X.near now V' (HG.out V' (E7.trans E)).tab)
  have HS := Lib.hid (fun V' (E : Kp G.T.mut W7 V') => (show V'.cell? ⟨G.g, 23, none⟩ = some (.pointer (some ⟨G.T.gT, 0, none⟩)) ∧ V'.cell? ⟨gx, 19, none⟩ = some (.int .i64 X.near) ∧ V'.cell? ⟨G.g, 25, none⟩ = some (.int .i64 now) from by
    have kb := (HG.out W7 E7).blk.kp E hg0
    exact ⟨kb.cells 23, (KB.kp E (fun hm => by have := HMUT.out _ hm; omega)).cells 19, kb.cells 25⟩))
  have D0 : Kp G.T.mut W7 W7.drew := (Kp.refl _ W7).drew
  have e0 : Ext W7 W7.drew := (Ext.refl W7).drew
  have HS0 := HS.out _ D0
  refine wp_region_held_drew (S := (fun V' => V'.cell? ⟨G.g, 23, none⟩ = some (.pointer (some ⟨G.T.gT, 0, none⟩)) ∧ V'.cell? ⟨gx, 19, none⟩ = some (.int .i64 X.near) ∧ V'.cell? ⟨G.g, 25, none⟩ = some (.int .i64 now))) (by kernel_rfl) HS0 (fun hS0 => ?_)
  clear HS0
  generalize W7.drew = V1 at *
  (refine wpAnyH_take (i := 0) (v := ?_) rfl (by kernel_rfl) (by kernel_rfl) (by kernel_rfl) (fun _ _ _ h => h) (Or.inl ⟨by rfl, ?_⟩) (by assumption) ?_; rotate_left; focus (intro w hSw; (try dsimp only at hSw); go_simp; try with_reducible rfl); try simp only [Act.put, List.getElem_toArray, List.getElem_cons_succ, List.getElem_cons_zero, List.setIfInBounds_toArray, List.set_cons_zero, List.set_cons_succ])
  (refine wpAnyH_take (i := 1) (v := ?_) rfl (by kernel_rfl) (by kernel_rfl) (by kernel_rfl) (fun _ _ _ h => h) (Or.inl ⟨by rfl, ?_⟩) (by assumption) ?_; rotate_left; focus (intro w hSw; (try dsimp only at hSw); go_simp; try with_reducible rfl); try simp only [Act.put, List.getElem_toArray, List.getElem_cons_succ, List.getElem_cons_zero, List.setIfInBounds_toArray, List.set_cons_zero, List.set_cons_succ])
  (refine wpAnyH_take (i := 2) (v := ?_) rfl (by kernel_rfl) (by kernel_rfl) (by kernel_rfl) (fun _ _ _ h => h) (Or.inl ⟨by rfl, ?_⟩) (by assumption) ?_; rotate_left; focus (intro w hSw; (try dsimp only at hSw); go_simp; try with_reducible rfl); try simp only [Act.put, List.getElem_toArray, List.getElem_cons_succ, List.getElem_cons_zero, List.setIfInBounds_toArray, List.set_cons_zero, List.set_cons_succ])
  (refine wpAnyH_take (i := 3) (v := ?_) rfl (by kernel_rfl) (by kernel_rfl) (by kernel_rfl) (fun _ _ _ h => h) (Or.inl ⟨by rfl, ?_⟩) (by assumption) ?_; rotate_left; focus (intro w hSw; (try dsimp only at hSw); go_simp; try with_reducible rfl); try simp only [Act.put, List.getElem_toArray, List.getElem_cons_succ, List.getElem_cons_zero, List.setIfInBounds_toArray, List.set_cons_zero, List.set_cons_succ])
  (refine wpAnyH_take (i := 4) (v := ?_) rfl (by kernel_rfl) (by kernel_rfl) (by kernel_rfl) (fun _ _ _ h => h) (Or.inl ⟨by rfl, ?_⟩) (by assumption) ?_; rotate_left; focus (intro w hSw; (try dsimp only at hSw); go_simp; try with_reducible rfl); try simp only [Act.put, List.getElem_toArray, List.getElem_cons_succ, List.getElem_cons_zero, List.setIfInBounds_toArray, List.set_cons_zero, List.set_cons_succ])
  (refine wpAnyH_take (i := 5) (v := ?_) rfl (by kernel_rfl) (by kernel_rfl) (by kernel_rfl) (fun _ _ _ h => h) (Or.inl ⟨by rfl, ?_⟩) (by assumption) ?_; rotate_left; focus (intro w hSw; (try dsimp only at hSw); go_simp; try with_reducible rfl); try simp only [Act.put, List.getElem_toArray, List.getElem_cons_succ, List.getElem_cons_zero, List.setIfInBounds_toArray, List.set_cons_zero, List.set_cons_succ])
  (refine wpAnyH_take (i := 6) (v := ?_) rfl (by kernel_rfl) (by kernel_rfl) (by kernel_rfl) (fun _ _ _ h => h) (Or.inl ⟨by rfl, ?_⟩) (by assumption) ?_; rotate_left; focus (intro w hSw; (try dsimp only at hSw); go_simp; try with_reducible rfl); try simp only [Act.put, List.getElem_toArray, List.getElem_cons_succ, List.getElem_cons_zero, List.setIfInBounds_toArray, List.set_cons_zero, List.set_cons_succ])
  (refine wpAnyH_take (i := 7) (v := ?_) rfl (by kernel_rfl) (by kernel_rfl) (by kernel_rfl) (fun _ _ _ h => h) (Or.inl ⟨by rfl, ?_⟩) (by assumption) ?_; rotate_left; focus (intro w hSw; (try dsimp only at hSw); go_simp; try with_reducible rfl); try simp only [Act.put, List.getElem_toArray, List.getElem_cons_succ, List.getElem_cons_zero, List.setIfInBounds_toArray, List.set_cons_zero, List.set_cons_succ])
  (refine wpAnyH_take (i := 8) (v := ?_) rfl (by kernel_rfl) (by kernel_rfl) (by kernel_rfl) (fun _ _ _ h => h) (Or.inl ⟨by rfl, ?_⟩) (by assumption) ?_; rotate_left; focus (intro w hSw; (try dsimp only at hSw); go_simp; try with_reducible rfl); try simp only [Act.put, List.getElem_toArray, List.getElem_cons_succ, List.getElem_cons_zero, List.setIfInBounds_toArray, List.set_cons_zero, List.set_cons_succ])
  (refine wpAnyH_take (i := 9) (v := ?_) rfl (by kernel_rfl) (by kernel_rfl) (by kernel_rfl) (fun _ _ _ h => h) (Or.inl ⟨by rfl, ?_⟩) (by assumption) ?_; rotate_left; focus (intro w hSw; (try dsimp only at hSw); go_simp; try with_reducible rfl); try simp only [Act.put, List.getElem_toArray, List.getElem_cons_succ, List.getElem_cons_zero, List.setIfInBounds_toArray, List.set_cons_zero, List.set_cons_succ])
  (try simp only [Act.put, List.getElem_toArray, List.getElem_cons_succ, List.getElem_cons_zero, List.setIfInBounds_toArray, List.set_cons_zero, List.set_cons_succ])
  (refine wpAnyH_ready (rs := [10]) (by kernel_rfl) (by simp) ?_; refine AllReadyH.cons rfl (fun K hK => ?_) AllReadyH.nil)
  go_simp
  go_at_call 43
  refine (HU.out V1 e0).mono ?_
  rintro e V2 ⟨rfl, t2, q⟩
  have D2 := D0.trans q
  refine hK.out _ _ (HS.out _ D2) ?_
  clear hK K
  intro hS1
  (try simp only [Act.put, List.getElem_toArray, List.getElem_cons_succ, List.getElem_cons_zero, List.setIfInBounds_toArray, List.set_cons_zero, List.set_cons_succ])
  (refine wpAnyH_take (i := 11) (v := ?_) rfl (by kernel_rfl) (by kernel_rfl) (by kernel_rfl) (fun _ _ _ h => h) (Or.inl ⟨by rfl, ?_⟩) (by assumption) ?_; rotate_left; focus (intro w hSw; (try dsimp only at hSw); go_simp; try with_reducible rfl); try simp only [Act.put, List.getElem_toArray, List.getElem_cons_succ, List.getElem_cons_zero, List.setIfInBounds_toArray, List.set_cons_zero, List.set_cons_succ])
  refine wpAnyH_done (by kernel_rfl) ?_ _
  have gw8 : GW V2 G c bs s (if bUseQ X.near now B = 0 then useB X.near now B else B) now := (HG.out V1 (E7.trans e0)).turn q t2
  have k8 := (E7.kp G.T.mut).trans D2
  have KP8 := KP.kp D2 (fun hm => by have := HMUT.out _ hm; omega)
  have KS8 := KS.kp D2 (fun hm => by have := HMUT.out _ hm; omega)
  have o8 := oD.kp D2 (fun j hj hm => by have := HMUT.out _ hm; have := (oD.lt j hj).1; omega)
  have KB8 := KB.kp D2 (fun hm => by have := HMUT.out _ hm; omega)
  clear hS1 hS0 HS HU D0 D2 e0 q t2 KP KS oD KB E7
  by_cases hq : bUseQ X.near now B = 0
  case neg =>
    have HY4 := Lib.hid (show g4use X T V L s B now = ⟨bUseQ X.near now B, [], s, B⟩ by unfold g4use; rw [if_neg hq])
    rw [if_neg hq] at gw8
    have HT := Lib.hid (show errv (bUseQ X.near now B) = erv (bUseQ X.near now B) from (erv_ne hq).symm)
    have HE := Lib.hid (And.intro gw8 k8)
    rw [erv_ne hq]
    unfold errv at HT ⊢
    clear hq gw8 k8 KP8 KS8 o8 KB8
    go_wp2_with fail
    go_returns
    refine inGot_err (HX.out.trans (HY.out.trans (HY2.out.trans (HY3.out.trans HY4.out)))) ?_ HE.out.1 HE.out.2
    rw [← HT.out]
    rfl
  have HY4 := Lib.hid (show g4use X T V L s B now = ⟨0, sent6 (V.ports X.flow.door X.flow.port) X.flow.dst X.flow.client (T - 1) L, s, useB X.near now B⟩ by unfold g4use; rw [if_pos hq])
  rw [if_pos hq] at gw8
  rw [hq, erv_zero]
  clear hq
  go_upto_region 15 with (fail)
  refine at_worldE (fun W => Kp G.T.mut w W ∧ GW W G c bs s (useB X.near now B) now ∧ Blk W gp 44 (c4 S D T K I (.slice a1 n1 c1)) ∧ Blk W gs 40 (V.cells (.slice a3 n3 c3)) ∧ Own W W2.heap.size (.slice a3 n3 c3) L ∧ Blk W gx 52 X.cells) ⟨k8, gw8, KP8, KS8, o8, KB8⟩ ?_
  clear k8 gw8 KP8 KS8 o8 KB8
  rintro W11 ⟨k11, gw11, KP, KS, oD, KB⟩
  have HS0 : (fun V' => V'.cell? ⟨G.g, 24, none⟩ = some (.map (some G.gS)) ∧ V'.cell? ⟨gx, 19, none⟩ = some (.int .i64 X.near) ∧ (Instr.lookup 69 (.map (some G.gS)) (.int .i64 X.near) false).run Tryz.prog V' = .ok (.pointer none) V') W11.drew :=
    ⟨gw11.nums.2.2.2.2.2.2.2.1, KB.cells 19, (gw11.ext (Ext.refl W11).drew).noStream X.near⟩
  refine wp_region_held_drew (S := (fun V' => V'.cell? ⟨G.g, 24, none⟩ = some (.map (some G.gS)) ∧ V'.cell? ⟨gx, 19, none⟩ = some (.int .i64 X.near) ∧ (Instr.lookup 69 (.map (some G.gS)) (.int .i64 X.near) false).run Tryz.prog V' = .ok (.pointer none) V')) (by kernel_rfl) HS0 (fun hS0 => ?_)
  clear HS0
  have k12 := k11.drew
  have gw12 := gw11.ext (Ext.refl W11).drew
  have oD12 := oD.drew
  have KP12 := Blk.drew KP
  have KS12 := Blk.drew KS
  have KB12 := Blk.drew KB
  clear k11 gw11 oD KP KS KB
  generalize W11.drew = V1 at *
  (refine wpAnyH_take (i := 0) (v := ?_) rfl (by kernel_rfl) (by kernel_rfl) (by kernel_rfl) (fun _ _ _ h => h) (Or.inl ⟨by rfl, ?_⟩) (by assumption) ?_; rotate_left; focus (intro w hSw; (try dsimp only at hSw); go_simp; try with_reducible rfl); try simp only [Act.put, List.getElem_toArray, List.getElem_cons_succ, List.getElem_cons_zero, List.setIfInBounds_toArray, List.set_cons_zero, List.set_cons_succ])
  (refine wpAnyH_take (i := 1) (v := ?_) rfl (by kernel_rfl) (by kernel_rfl) (by kernel_rfl) (fun _ _ _ h => h) (Or.inl ⟨by rfl, ?_⟩) (by assumption) ?_; rotate_left; focus (intro w hSw; (try dsimp only at hSw); go_simp; try with_reducible rfl); try simp only [Act.put, List.getElem_toArray, List.getElem_cons_succ, List.getElem_cons_zero, List.setIfInBounds_toArray, List.set_cons_zero, List.set_cons_succ])
  (refine wpAnyH_take (i := 2) (v := ?_) rfl (by kernel_rfl) (by kernel_rfl) (by kernel_rfl) (fun _ _ _ h => h) (Or.inl ⟨by rfl, ?_⟩) (by assumption) ?_; rotate_left; focus (intro w hSw; (try dsimp only at hSw); go_simp; try with_reducible rfl); try simp only [Act.put, List.getElem_toArray, List.getElem_cons_succ, List.getElem_cons_zero, List.setIfInBounds_toArray, List.set_cons_zero, List.set_cons_succ])
  (refine wpAnyH_take (i := 3) (v := ?_) rfl (by kernel_rfl) (by kernel_rfl) (by kernel_rfl) (fun _ _ _ h => h) (Or.inl ⟨by rfl, ?_⟩) (by assumption) ?_; rotate_left; focus (intro w hSw; (try dsimp only at hSw); go_simp; try with_reducible rfl); try simp only [Act.put, List.getElem_toArray, List.getElem_cons_succ, List.getElem_cons_zero, List.setIfInBounds_toArray, List.set_cons_zero, List.set_cons_succ])
  (refine wpAnyH_take (i := 4) (v := ?_) rfl (by kernel_rfl) (by kernel_rfl) (by kernel_rfl) (fun _ _ _ h => h) (Or.inl ⟨by rfl, ?_⟩) (by assumption) ?_; rotate_left; focus (intro w hSw; (try dsimp only at hSw); go_simp; try with_reducible rfl); try simp only [Act.put, List.getElem_toArray, List.getElem_cons_succ, List.getElem_cons_zero, List.setIfInBounds_toArray, List.set_cons_zero, List.set_cons_succ])
  (refine wpAnyH_take (i := 5) (v := ?_) rfl (by kernel_rfl) (by kernel_rfl) (by kernel_rfl) (fun _ _ _ h => h) (Or.inl ⟨by rfl, ?_⟩) (by assumption) ?_; rotate_left; focus (intro w hSw; (try dsimp only at hSw); go_simp; try with_reducible rfl); try simp only [Act.put, List.getElem_toArray, List.getElem_cons_succ, List.getElem_cons_zero, List.setIfInBounds_toArray, List.set_cons_zero, List.set_cons_succ])
  (refine wpAnyH_take (i := 6) (v := ?_) rfl (by kernel_rfl) (by kernel_rfl) (by kernel_rfl) (fun _ _ _ h => h) (Or.inl ⟨by rfl, ?_⟩) (by assumption) ?_; rotate_left; focus (intro w hSw; (try dsimp only at hSw); go_simp; try with_reducible rfl); try simp only [Act.put, List.getElem_toArray, List.getElem_cons_succ, List.getElem_cons_zero, List.setIfInBounds_toArray, List.set_cons_zero, List.set_cons_succ])
  (refine wpAnyH_take (i := 7) (v := ?_) rfl (by kernel_rfl) (by kernel_rfl) (by kernel_rfl) (fun _ _ _ h => h) (Or.inl ⟨by rfl, ?_⟩) (by assumption) ?_; rotate_left; focus (intro w hSw; (try dsimp only at hSw); go_simp; try with_reducible rfl); try simp only [Act.put, List.getElem_toArray, List.getElem_cons_succ, List.getElem_cons_zero, List.setIfInBounds_toArray, List.set_cons_zero, List.set_cons_succ])
  refine wpAnyH_done (by kernel_rfl) ?_ _
  clear hS0
  go_upto_region 20 with (fail)
  refine at_worldE (fun W => Kp G.T.mut w W ∧ GW W G c bs s (useB X.near now B) now ∧ Blk W gp 44 (c4 S D T K I (.slice a1 n1 c1)) ∧ Blk W gs 40 (V.cells (.slice a3 n3 c3)) ∧ Own W W2.heap.size (.slice a3 n3 c3) L ∧ Blk W gx 52 X.cells) ⟨k12, gw12, KP12, KS12, oD12, KB12⟩ ?_
  clear k12 gw12 oD12 KP12 KS12 KB12
  rintro W12 ⟨k12, gw12, KP, KS, oD, KB⟩
  have hgs' : w.heap.size ≤ gs := by omega
  have hlx := KB.lt
  have hoD := HOD.out
  have c18 : W12.cell? ⟨gx, 18, none⟩ = some (.int .i64 X.flow.door) := KB.cells 18
  have c9 : W12.cell? ⟨gx, 9, none⟩ = some (.int .i64 X.flow.port) := KB.cells 9
  have fz := KS.free
  obtain ⟨_, cs1, cs2, _⟩ := KS.sg
  have k13 := (k12.set2 (p := ⟨gs, 1, none⟩) hgs' (.int .i64 X.flow.door)).set2 (p := ⟨gs, 2, none⟩) hgs' (.int .i64 X.flow.port)
  have KS13 : Blk ((W12.setCell ⟨gs, 1, none⟩ (.int .i64 X.flow.door)).setCell ⟨gs, 2, none⟩ (.int .i64 X.flow.port)) gs 40 ((V.ports X.flow.door X.flow.port).cells (.slice a3 n3 c3)) := (KS.put 1 (.int .i64 X.flow.door)).put 2 (.int .i64 X.flow.port)
  have KP13 := (KP.far (p := ⟨gs, 1, none⟩) (by show gp ≠ gs; omega) (.int .i64 X.flow.door)).far (p := ⟨gs, 2, none⟩) (by show gp ≠ gs; omega) (.int .i64 X.flow.port)
  have KB13 := (KB.far (p := ⟨gs, 1, none⟩) (by show gx ≠ gs; omega) (.int .i64 X.flow.door)).far (p := ⟨gs, 2, none⟩) (by show gx ≠ gs; omega) (.int .i64 X.flow.port)
  have gw13 := (gw12.setN HSZ.out (p := ⟨gs, 1, none⟩) hgs' (.int .i64 X.flow.door)).setN HSZ.out (p := ⟨gs, 2, none⟩) hgs' (.int .i64 X.flow.port)
  have o13 := (oD.off (p := ⟨gs, 1, none⟩) hoD (.int .i64 X.flow.door)).off (p := ⟨gs, 2, none⟩) hoD (.int .i64 X.flow.port)
  have HZ13 := Lib.hid (And.intro k13 (And.intro gw13 (And.intro KP13 (And.intro KS13 (And.intro o13 KB13)))))
  clear k12 gw12 KP KS oD KB k13 gw13 KP13 KS13 o13 KB13
  go_region
  obtain ⟨k13, gw13, KP13, KS13, o13, KB13⟩ := HZ13.out
  go_upto_region 21 with (fail)
  refine at_worldE (fun W => Kp G.T.mut w W ∧ GW W G c bs s (useB X.near now B) now ∧ Blk W gp 44 (c4 S D T K I (.slice a1 n1 c1)) ∧ Blk W gs 40 ((V.ports X.flow.door X.flow.port).cells (.slice a3 n3 c3)) ∧ Own W W2.heap.size (.slice a3 n3 c3) L ∧ Blk W gx 52 X.cells) (by first | exact ⟨k13, gw13, KP13, KS13, o13, KB13⟩ | exact ⟨k13.drew, gw13.ext (Ext.refl _).drew, KP13, KS13, o13.drew, KB13⟩) ?_
  clear k13 gw13 KP13 KS13 o13 KB13 c18 c9 fz cs1 cs2 HZ13
  rintro W13 ⟨k13, gw13, KP, KS, oD, KB⟩
  obtain ⟨a4, n4, c4', hv4, hn4, r4, hc4⟩ := oD.readn
  cases hv4
  have hld : L.length = n3 := r4.len
  have HOKP := Lib.hid (show Pl.SegOk (V.ports X.flow.door X.flow.port) n3 from by
    have h0 := HSO.out
    rw [hld] at h0
    exact ⟨h0.1, HBO.out.flow.2.2.2.2, HBO.out.flow.2.2.2.1, h0.2.2.2⟩)
  have HCL := Lib.hid (close6_any (V.ports X.flow.door X.flow.port) X.flow.dst X.flow.client (T - 1) a3 n3 c3 L W13 HOKP.out HBO.out.flow.2.2.1 HBO.out.flow.2.1 r4 HDB.out)
  have hT2 : 2 ≤ T := by have := HHOP.out; omega
  have ew : IntKind.i64.wrap (T - 1) = T - 1 := IntWalk.i64_in _ (by omega)
  have ls := KS.seg
  have la := KB.bdDst
  have lb := KB.bdClient
  have kt : W13.cell? ⟨gp, 2, none⟩ = some (.int .i64 T) := KP.cells 2
  have HK13 := Lib.hid k13
  have HW13 := Lib.hid gw13
  clear KP KS oD KB r4 hc4 k13 gw13
  go_wp2_with ((apply load_by rfl _ _ rfl _ rfl); (focus (with_reducible assumption)))
  refine HCL.out.mono ?_
  rintro e W14 ⟨a5, n5, c5, rfl, o5, q14⟩
  have KX := Blk.new W14 61 #[.int .i64 0, .int .i64 0, .int .i64 0, .int .i64 0, .int .i64 0, .int .i64 0, .int .i64 0, .int .i64 0, .int .i64 0, .int .i64 0, .int .i64 0, .int .i64 0, .int .i64 0, .int .i64 0, .int .i64 0, .int .i64 0, .int .i64 0, .int .i64 0, .slice none 0 0]
  have st := sto6l KX ⟨X.flow.dst, X.flow.client, T - 1, V.kind⟩ a5 n5 c5
  have KQ := KX.row ((⟨X.flow.dst, X.flow.client, T - 1, V.kind⟩ : P6).cells (.slice a5 n5 c5))
  have q15 := (q14.alloc (.cells #[.int .i64 0, .int .i64 0, .int .i64 0, .int .i64 0, .int .i64 0, .int .i64 0, .int .i64 0, .int .i64 0, .int .i64 0, .int .i64 0, .int .i64 0, .int .i64 0, .int .i64 0, .int .i64 0, .int .i64 0, .int .i64 0, .int .i64 0, .int .i64 0, .slice none 0 0] 61)).row (k := W14.heap.size) q14.size ((⟨X.flow.dst, X.flow.client, T - 1, V.kind⟩ : P6).cells (.slice a5 n5 c5))
  have o6 := (o5.ext ((Ext.refl W14).alloc (.cells #[.int .i64 0, .int .i64 0, .int .i64 0, .int .i64 0, .int .i64 0, .int .i64 0, .int .i64 0, .int .i64 0, .int .i64 0, .int .i64 0, .int .i64 0, .int .i64 0, .int .i64 0, .int .i64 0, .int .i64 0, .int .i64 0, .int .i64 0, .int .i64 0, .slice none 0 0] 61))).rowOff (k := W14.heap.size) (fun j hj => by have := (o5.lt j hj).2; omega) ((⟨X.flow.dst, X.flow.client, T - 1, V.kind⟩ : P6).cells (.slice a5 n5 c5))
  clear KX q14 o5 ls la lb kt
  go_upto_region 24 with ((apply store_by rfl _ _ _ rfl _ rfl); (focus (with_reducible assumption)); (focus rfl))
  refine at_worldE (fun W => Ext W13 W ∧ Blk W W14.heap.size 61 ((⟨X.flow.dst, X.flow.client, T - 1, V.kind⟩ : P6).cells (.slice a5 n5 c5)) ∧ Own W W13.heap.size (.slice a5 n5 c5) (body6 (V.ports X.flow.door X.flow.port) X.flow.dst X.flow.client L)) ⟨q15, KQ, o6⟩ ?_
  clear q15 KQ o6 st
  rintro W15 ⟨q15, KQ, o5⟩
  obtain ⟨_, _, _, hv5, hn5, r5, _⟩ := o5.readn
  cases hv5
  have hfault : (⟨X.flow.dst, X.flow.client, T - 1, V.kind⟩ : P6).fault n5 = 0 := by
    have h1 := r5.len
    have hso : SentOk (V.ports X.flow.door X.flow.port) X.flow.dst X.flow.client (T - 1) L.length := ⟨by rw [hld]; exact HOKP.out, HBO.out.flow.2.2.1, HBO.out.flow.2.1, by omega, by omega⟩
    have h2 := hso.small
    have h3 := hso.good
    rw [h1] at h2
    unfold P6.fault
    rw [if_pos (show (⟨X.flow.dst, X.flow.client, T - 1, V.kind⟩ : P6).good = true from h3), if_pos h2]
  have HEN := Lib.hid (encode6_ok ⟨X.flow.dst, X.flow.client, T - 1, V.kind⟩ a5 n5 c5 _ W15 hfault r5)
  have HGW := Lib.hid (HW13.out.ext q15)
  have HKW := Lib.hid (HK13.out.andExt q15)
  have ld := KQ.p6
  clear KQ o5 r5 q15 hfault HCL
  go_wp2_with ((apply load_by rfl _ _ rfl _ rfl); (focus (with_reducible assumption)))
  refine HEN.out.mono ?_
  rintro e W16 ⟨v, rfl, o16, q16⟩
  have gwF := HGW.out.ext q16
  have kF := HKW.out.andExt q16
  have oF := o16.mono HKW.out.size
  have HF := Lib.hid (And.intro oF (And.intro gwF kF))
  clear o16 q16 gwF kF oF ld
  go_wp2_with fail
  go_returns
  rw [HX.out, HY.out, HY2.out, HY3.out, HY4.out]
  exact ⟨⟨v, rfl, HF.out.1⟩, HF.out.2.1, HF.out.2.2⟩
end Go.Proofs.YtbjogkpepfgegaaGreatDoor
