/- The law TopMoves: of two gates, the one without a server that the other one has, each new flow that the other one leads elsewhere is led there by both. Conditions: the row's own: gangplank/proxy.sign is left open, and is never read. -/
import Derived.Test.YtbjogkpepfgegaaGreatDoorK00
import Derived.Test.YtbjogkpepfgegaaGreatDoorK22
import Derived.Test.YtbjogkpepfgegaaGreatDoorK48
import Derived.Test.YtbjogkpepfgegaaGreatDoorK40
import Derived.Test.YtbjogkpepfgegaaGreatDoorK06
import Derived.Test.YtbjogkpepfgegaaGreatDoorK04
import Derived.Deep.DeepCutAuto
namespace Go.Proofs.YtbjogkpepfgegaaGreatDoor.topMoves
open Go.ChangeShapes Go.WideShapes Go.ChangeAt Go.RowKit
abbrev ask (port door : Int) : Sg := ⟨17, port, door, 0, 0, 0, 0⟩
abbrev fl (c : Cfg) (src : Six) (port : Int) : Flow := ⟨17, src, port, c.vip, c.door⟩
theorem apart_set {l : List Pl.Back} {k : Nat} {z y : Pl.Back} (h : Pl.Apart l) (hz : l[k]? = some z) (hy : y.id = z.id) : Pl.Apart (l.set k y) := by
  unfold Pl.Apart at *
  rw [← List.pairwise_map (f := Pl.Back.id) (R := fun a b => a ≠ b)] at h ⊢
  have : (l.set k y).map Pl.Back.id = l.map Pl.Back.id := by
    refine List.ext_getElem? fun j => ?_
    rw [List.getElem?_map, List.getElem?_map, List.getElem?_set]
    by_cases hj : k = j
    · subst hj
      have hl := (List.getElem?_eq_some_iff.1 hz).1
      rw [if_pos rfl, if_pos hl, hz]
      simp [hy]
    · rw [if_neg hj]
  rw [this]
  exact h
theorem ok_set {bs : List Pl.Back} {k : Nat} {z : Pl.Back} (h : Pl.OkBacks bs) (hz : bs[k]? = some z) (up : Bool) : Pl.OkBacks (bs.set k { z with up := up }) := by
  refine Pl.OkBacks.of (by rw [List.length_set]; exact h.1) (fun b hb => ?_) (apart_set h.apart hz rfl)
  rcases List.mem_or_eq_of_mem_set hb with hb | rfl
  · exact h.num hb
  · have h2 := h.num (List.mem_of_getElem? hz)
    exact h2
theorem cfg_set {c : Cfg} {bs : List Pl.Back} {k : Nat} {z : Pl.Back} (h : CfgOk c bs) (hz : bs[k]? = some z) (up : Bool) : CfgOk c (bs.set k { z with up := up }) :=
  ⟨h.vip, h.door, h.pfx, h.near, h.seed, h.blocks, ok_set h.bks hz up, h.out⟩
section
variable {c : Cfg} {bs : List Pl.Back} {src : Six} {port : Int}
theorem mv_some (hok : CfgOk c bs) (h : SentOk (ask port c.door) src c.vip 9 ([] : List Int).length) {x : Pl.Back} (hb : Pl.best (Pl.worth c.seed (fl c src port)) bs = some x) :
    g6 c bs (PS.zero c.blocks.toNat) [] 0 (sent6 (ask port c.door) src c.vip 9 []) = ⟨0, sent4 (ask 1024 x.door) c.near x.addr 8 [], (PS.zero c.blocks.toNat).take src, [oneBd (fl c src port) x.addr x.door]⟩ := by
  have hv : sixEq (segFlow ⟨src, c.vip, 9, (ask port c.door).kind⟩ (ask port c.door)).dst c.vip = true := sixEq_self _
  have hb' : Pl.best (Pl.worth c.seed (segFlow ⟨src, c.vip, 9, (ask port c.door).kind⟩ (ask port c.door))) bs = some x := hb
  have hn := hok.bks.num (Pl.best_mem hb).1
  refine first_in6 (c := c) (bs := bs) h (by omega) hok.blocks.1 ?_ rfl ?_ ?_ ?_ hn.2.2.1 hn.2.1
  · unfold gWhQ
    rw [if_pos hv]
    exact if_pos rfl
  · unfold gToQ
    rw [if_pos hv, hb']
    rfl
  · unfold gToA
    rw [if_pos hv, hb']
    rfl
  · unfold gToD
    rw [if_pos hv, hb']
    rfl
theorem mv_none (h : SentOk (ask port c.door) src c.vip 9 ([] : List Int).length) (hb : Pl.best (Pl.worth c.seed (fl c src port)) bs = none) :
    g6 c bs (PS.zero c.blocks.toNat) [] 0 (sent6 (ask port c.door) src c.vip 9 []) = ⟨4, [], PS.zero c.blocks.toNat, []⟩ := by
  have hv : sixEq (segFlow ⟨src, c.vip, 9, (ask port c.door).kind⟩ (ask port c.door)).dst c.vip = true := sixEq_self _
  have hb' : Pl.best (Pl.worth c.seed (segFlow ⟨src, c.vip, 9, (ask port c.door).kind⟩ (ask port c.door))) bs = none := hb
  have hq : gToQ c bs (segFlow ⟨src, c.vip, 9, (ask port c.door).kind⟩ (ask port c.door)) = 4 := by
    unfold gToQ
    rw [if_pos hv, hb']
    rfl
  rw [g6_sent h]
  unfold g6seg
  rw [if_neg (by show ¬ (9 : Int) < 2; omega)]
  have hw : gWhQ c (segFlow ⟨src, c.vip, 9, (ask port c.door).kind⟩ (ask port c.door)) = 0 := by
    unfold gWhQ
    rw [if_pos hv]
    exact if_pos rfl
  rw [if_pos hw, first_none_bind (by rw [hq]; decide) rfl, hq]
  rfl
theorem mv_out (hok : CfgOk c bs) (h : SentOk (ask port c.door) src c.vip 9 ([] : List Int).length) {x : Pl.Back} (hx : x ∈ bs) : BackOk (ask 1024 x.door) c.near x.addr 8 ([] : List Int).length := by
  have hn := hok.bks.num hx
  exact ⟨⟨.inr rfl, by show 0 ≤ (1024 : Int) ∧ (1024 : Int) ≤ 65535; omega, hn.2.1, h.seg.2.2.2⟩, hok.near, hn.2.2.1, by omega⟩
/-- What both gates make of it. -/
theorem moves_plain (hok : CfgOk c bs) {k : Nat} {z : Pl.Back} (hz : bs[k]? = some z) :
    ((g6 c bs (PS.zero c.blocks.toNat) [] 0 (sentX (ask port c.door) src c.vip 9 [])).q ≠ 0 ∧ (g6 c (bs.set k { z with up := false }) (PS.zero c.blocks.toNat) [] 0 (sentX (ask port c.door) src c.vip 9 [])).q ≠ 0) ∨
    ∃ x, x ∈ bs ∧ g6 c bs (PS.zero c.blocks.toNat) [] 0 (sentX (ask port c.door) src c.vip 9 []) = ⟨0, sent4 (ask 1024 x.door) c.near x.addr 8 [], (PS.zero c.blocks.toNat).take src, [oneBd (fl c src port) x.addr x.door]⟩ ∧ BackOk (ask 1024 x.door) c.near x.addr 8 ([] : List Int).length ∧
      (x.id = z.id ∨ ((g6 c (bs.set k { z with up := false }) (PS.zero c.blocks.toNat) [] 0 (sentX (ask port c.door) src c.vip 9 [])).q = 0 ∧ (g6 c (bs.set k { z with up := false }) (PS.zero c.blocks.toNat) [] 0 (sentX (ask port c.door) src c.vip 9 [])).out = sent4 (ask 1024 x.door) c.near x.addr 8 [])) := by
  cases hs : sentQ (ask port c.door) src c.vip 9 [] with
  | false =>
    have hx : sentX (ask port c.door) src c.vip 9 [] = [] := by unfold sentX; rw [hs, if_neg Bool.false_ne_true]
    rw [hx, g6_nil, g6_nil]
    exact .inl ⟨(by decide : (5 : Int) ≠ 0), (by decide : (5 : Int) ≠ 0)⟩
  | true =>
    have hso := sentQ_ok hs
    have hx : sentX (ask port c.door) src c.vip 9 [] = sent6 (ask port c.door) src c.vip 9 [] := by unfold sentX; rw [hs, if_pos rfl]
    rw [hx]
    cases hb : Pl.best (Pl.worth c.seed (fl c src port)) bs with
    | none =>
      rw [mv_none hso hb, mv_none hso (Pl.best_down_none hb rfl)]
      exact .inl ⟨(by decide : (4 : Int) ≠ 0), (by decide : (4 : Int) ≠ 0)⟩
    | some x =>
      refine .inr ⟨x, (Pl.best_mem hb).1, mv_some hok hso hb, mv_out hok hso (Pl.best_mem hb).1, ?_⟩
      by_cases he : x = z
      · exact .inl (by rw [he])
      · have hd := Pl.best_down (y := { z with up := false }) hok.bks.apart hz hb he rfl
        rw [mv_some (cfg_set hok hz false) hso hd]
        exact .inr ⟨rfl, rfl⟩
theorem no_head (c : Cfg) (src : Six) (port : Int) : gHead c (segFlow (Pl.dec6 (sentX (ask port c.door) src c.vip 9 [])) (g6sg (sentX (ask port c.door) src c.vip 9 []))) = false := by
  have hk : (g6sg (sentX (ask port c.door) src c.vip 9 [])).kind ≠ 6 := by
    cases hs : sentQ (ask port c.door) src c.vip 9 [] with
    | false =>
      have hx : sentX (ask port c.door) src c.vip 9 [] = [] := by unfold sentX; rw [hs, if_neg Bool.false_ne_true]
      rw [hx]
      decide
    | true =>
      have hx : sentX (ask port c.door) src c.vip 9 [] = sent6 (ask port c.door) src c.vip 9 [] := by unfold sentX; rw [hs, if_pos rfl]
      rw [hx, (sentQ_ok hs).sg]
      exact (by decide : (17 : Int) ≠ 6)
  unfold gHead
  have : decide ((segFlow (Pl.dec6 (sentX (ask port c.door) src c.vip 9 [])) (g6sg (sentX (ask port c.door) src c.vip 9 []))).kind = 6) = false := decide_eq_false hk
  rw [this, Bool.and_false, Bool.and_false]
theorem sentX_isB (c : Cfg) (src : Six) (port : Int) : Pl.IsB (sentX (ask port c.door) src c.vip 9 []) := by
  unfold sentX
  cases hs : sentQ (ask port c.door) src c.vip 9 [] with
  | false => exact Pl.IsB.nil
  | true => exact (sentQ_ok hs).isB Pl.IsB.nil
/-- A bind's server is one of the list, at its door. -/
def isOwn (id : Int) (x b : Pl.Back) : Bool := b.id == id && (b.addr == x.addr && b.door == x.door)
end
set_option maxRecDepth 100000 in
set_option maxHeartbeats 8000000 in
theorem walk (cf : Cfg) (a0 : Option Addr) (n0 m0 : Nat) (b0 : List Pl.Back) (x1 : Int) (y2 : Six) (x3 : Int) (w : World) (w0 : IsCfg w cf a0 n0 m0 b0) (i1 : IsInt x1) (_ : y2.Is) (_ : IsInt x3) :
    Calls Tryz.prog 3 #[cf.v (.slice a0 n0 m0), .int .i64 x1, y2.v, .int .i64 x3] w fun e w' => e = .returned (.bool true) ∧ Below w.heap.size w w' := by
  obtain ⟨⟨hb, hnm, _⟩, _⟩ := w0
  obtain ⟨i, q, hp⟩ := Pl.PF.ex b0
  have HB := Lib.hid hb
  have HP := Lib.hid hp
  have HI1 := Lib.hid i1
  have KC := (Blk.new w 26 (cf.cells (.slice a0 n0 m0))).alloc (.cells y2.cells 23)
  have KA := Blk.at (n := w.heap.size + 1) (w.alloc (.cells (cf.cells (.slice a0 n0 m0)) 26)) 23 y2.cells (by simp)
  have E0 := ((Ext.refl w).alloc (.cells (cf.cells (.slice a0 n0 m0)) 26)).alloc (.cells y2.cells 23)
  clear hb hp i1
  unfold Six.v
  go_enter Tryz.func3, Tryz.ntmps3
  go_upto_region 1 with (fail)
  refine at_worldE (fun W => Ext w W ∧ Blk W w.heap.size 26 (cf.cells (.slice a0 n0 m0)) ∧ Blk W (w.heap.size + 1) 23 y2.cells) ⟨E0, KC, KA⟩ ?_
  clear E0 KC KA
  rintro W1 ⟨E1, KC, KA⟩
  go_wp2_with fail
  refine (one_any W1).mono ?_
  rintro e W2 ⟨rfl, q2⟩
  have E2 := E1.trans q2
  replace KC := KC.ext q2
  replace KA := KA.ext q2
  clear E1 q2
  have HA2 := Lib.hid KA.lt
  have ld := KC.cfg
  by_cases hc : cf.err q = 0
  case neg =>
    have HC := Lib.hid (fun V (E : Ext w V) => gnew_no cf a0 n0 m0 b0 i q V (HB.out.ext E) hnm HP.out hc)
    unfold errv at HC
    have HE := Lib.hid E2
    have HK := Lib.hid KC
    clear hc KC KA E2
    go_wp2_with ((apply load_by rfl _ _ rfl _ rfl); (focus (with_reducible assumption)))
    refine (HC.out W2 HE.out).mono ?_
    rintro e W3 ⟨rfl, q3⟩
    have ld := (HK.out.ext q3).cfg
    go_wp2_with ((apply load_by rfl _ _ rfl _ rfl); (focus (with_reducible assumption)))
    refine (HC.out W3 (HE.out.trans q3)).mono ?_
    rintro e W4 ⟨rfl, q4⟩
    go_wp2_with fail
    go_quiet (fail)
    go_wp2_with fail
    go_returns
    exact ⟨rfl, ((HE.out.trans q3).trans q4).drewN _⟩
  have HOK := Lib.hid (CfgOk.of HP.out hc)
  have HC := Lib.hid (fun V (E : Ext w V) => gnewW cf a0 n0 m0 b0 i q V (HB.out.ext E) hnm HP.out hc)
  clear hc
  go_wp2_with ((apply load_by rfl _ _ rfl _ rfl); (focus (with_reducible assumption)))
  refine (HC.out W2 E2).mono ?_
  rintro e W3 ⟨G, rfl, gw3, q3, hG3, hv3⟩
  have E3 := E2.trans q3
  replace KC := KC.ext q3
  replace KA := KA.ext q3
  have HG := Lib.hid (And.intro hG3 hv3)
  have HS3 := Lib.hid q3.size
  clear ld E2 q3 hG3 hv3
  have ld := KC.cfg
  go_wp2_with ((apply load_by rfl _ _ rfl _ rfl); (focus (with_reducible assumption)))
  refine (HC.out W3 E3).mono ?_
  rintro e W4 ⟨H, rfl, hw4, q4, hH4, hv4⟩
  have E4 := E3.trans q4
  have gw4 := gw3.ext q4
  replace KC := KC.ext q4
  replace KA := KA.ext q4
  -- where the two gates lie
  have h23 : w.heap.size + 1 < W2.heap.size := HA2.out
  have hs23 : W2.heap.size ≤ W3.heap.size := HS3.out
  have hs34 : W3.heap.size ≤ W4.heap.size := q4.size
  have HGA := Lib.hid (show ∀ g ∈ G.all, w.heap.size + 1 < g ∧ g < W3.heap.size from fun g hg => ⟨by have := HG.out.1 g hg; omega, gw3.lt g hg⟩)
  have HGV := Lib.hid (show ∀ k, G.bv.ownBlock = some k → k < W3.heap.size from fun k hk => (gw3.bks.lt k hk).2)
  have HHA := Lib.hid (show ∀ g ∈ H.all, W3.heap.size ≤ g ∧ g < W4.heap.size from fun g hg => ⟨hH4 g hg, hw4.lt g hg⟩)
  have HHV := Lib.hid (show ∀ k, H.bv.ownBlock = some k → W3.heap.size ≤ k ∧ k < W4.heap.size from fun k hk => ⟨hv4 k hk, (hw4.bks.lt k hk).2⟩)
  clear ld E3 q4 hH4 hv4 gw3 HG HC
  have c22 := KC.cfgNums.2.2.2.2.2
  by_cases hz : n0 = 0
  case pos =>
    subst hz
    have HE := Lib.hid E4
    clear E4 gw4 hw4 KC KA
    go_wp2_with fail
    go_quiet (fail)
    go_wp2_with fail
    go_returns
    exact ⟨rfl, HE.out.drewN _⟩
  have hzb : ((n0 : Int) == 0) = false := by simp; omega
  -- whose server is put down
  obtain ⟨b', off, hab, _, hcc⟩ := (HB.out.ext E4).at (Ext.refl W4) (by omega)
  subst hab
  have hl0 : b0.length = n0 := HB.out.1
  have hl8 : n0 ≤ 8 := by rw [← hl0]; exact HOK.out.bks.1
  have HCC := Lib.hid (fun V (E : Ext W4 V) => (HB.out.ext (E4.trans E)))
  have HPK := Lib.hid (fun V => pick_any x1 (n0 : Int) V HI1.out (by omega))
  have HS := Lib.hid (fun V (E : Ext W4 V) => (show V.cell? ⟨w.heap.size, 22, none⟩ = some (.slice (some ⟨b', off, none⟩) n0 m0) ∧ ∀ kk : Nat, kk < n0 → V.cell? ⟨b', off + kk * 6, none⟩ = some (.int .i64 (b0.getD kk Pl.back0).id) from by
    refine ⟨(KC.ext E).cells 22, fun kk hkk => ?_⟩
    obtain ⟨b2, o2, he, _, hcc⟩ := (HCC.out V E).at (Ext.refl V) (by omega)
    cases he
    exact (hcc kk hkk).1))
  have D0 : Ext W4 W4.drew := (Ext.refl W4).drew
  clear hcc
  go_upto_region 8 with (fail)
  go_cut [14] (fun v wc => ∃ k : Nat, k < n0 ∧ v = .int .i64 (b0.getD k Pl.back0).id ∧ Ext W4 wc)
  case first =>
    have HS0 := HS.out _ D0
    refine wp_region_held_drew (S := (fun V => V.cell? ⟨w.heap.size, 22, none⟩ = some (.slice (some ⟨b', off, none⟩) n0 m0) ∧ ∀ kk : Nat, kk < n0 → V.cell? ⟨b', off + kk * 6, none⟩ = some (.int .i64 (b0.getD kk Pl.back0).id))) (by kernel_rfl) HS0 (fun hS0 => ?_)
    clear HS0
    generalize W4.drew = V1 at *
    (refine wpAnyH_take (i := 0) (v := ?_) rfl (by kernel_rfl) (by kernel_rfl) (by kernel_rfl) (fun _ _ _ h => h) (Or.inl ⟨by rfl, ?_⟩) (by assumption) ?_; rotate_left; focus (intro w hSw; (try dsimp only at hSw); go_simp; try with_reducible rfl); try simp only [Act.put, List.getElem_toArray, List.getElem_cons_succ, List.getElem_cons_zero, List.setIfInBounds_toArray, List.set_cons_zero, List.set_cons_succ])
    (refine wpAnyH_take (i := 1) (v := ?_) rfl (by kernel_rfl) (by kernel_rfl) (by kernel_rfl) (fun _ _ _ h => h) (Or.inl ⟨by rfl, ?_⟩) (by assumption) ?_; rotate_left; focus (intro w hSw; (try dsimp only at hSw); go_simp; try with_reducible rfl); try simp only [Act.put, List.getElem_toArray, List.getElem_cons_succ, List.getElem_cons_zero, List.setIfInBounds_toArray, List.set_cons_zero, List.set_cons_succ])
    (refine wpAnyH_take (i := 2) (v := ?_) rfl (by kernel_rfl) (by kernel_rfl) (by kernel_rfl) (fun _ _ _ h => h) (Or.inl ⟨by rfl, ?_⟩) (by assumption) ?_; rotate_left; focus (intro w hSw; (try dsimp only at hSw); go_simp; try with_reducible rfl); try simp only [Act.put, List.getElem_toArray, List.getElem_cons_succ, List.getElem_cons_zero, List.setIfInBounds_toArray, List.set_cons_zero, List.set_cons_succ])
    (refine wpAnyH_take (i := 3) (v := ?_) rfl (by kernel_rfl) (by kernel_rfl) (by kernel_rfl) (fun _ _ _ h => h) (Or.inl ⟨by rfl, ?_⟩) (by assumption) ?_; rotate_left; focus (intro w hSw; (try dsimp only at hSw); go_simp; try with_reducible rfl); try simp only [Act.put, List.getElem_toArray, List.getElem_cons_succ, List.getElem_cons_zero, List.setIfInBounds_toArray, List.set_cons_zero, List.set_cons_succ])
    (refine wpAnyH_take (i := 4) (v := ?_) rfl (by kernel_rfl) (by kernel_rfl) (by kernel_rfl) (fun _ _ _ h => h) (Or.inl ⟨by rfl, ?_⟩) (by assumption) ?_; rotate_left; focus (intro w hSw; (try dsimp only at hSw); go_simp; try with_reducible rfl); try simp only [Act.put, List.getElem_toArray, List.getElem_cons_succ, List.getElem_cons_zero, List.setIfInBounds_toArray, List.set_cons_zero, List.set_cons_succ])
    (refine wpAnyH_take (i := 5) (v := ?_) rfl (by kernel_rfl) (by kernel_rfl) (by kernel_rfl) (fun _ _ _ h => h) (Or.inl ⟨by rfl, ?_⟩) (by assumption) ?_; rotate_left; focus (intro w hSw; (try dsimp only at hSw); go_simp; try with_reducible rfl); try simp only [Act.put, List.getElem_toArray, List.getElem_cons_succ, List.getElem_cons_zero, List.setIfInBounds_toArray, List.set_cons_zero, List.set_cons_succ])
    (try simp only [Act.put, List.getElem_toArray, List.getElem_cons_succ, List.getElem_cons_zero, List.setIfInBounds_toArray, List.set_cons_zero, List.set_cons_succ])
    (refine wpAnyH_ready (rs := [6]) (by kernel_rfl) (by simp) ?_; refine AllReadyH.cons rfl (fun K hK => ?_) AllReadyH.nil)
    go_simp
    go_at_call 7
    refine (HPK.out V1).mono ?_
    rintro e V2 ⟨k, rfl, hk, rfl⟩
    obtain ⟨kk, rfl⟩ : ∃ kk : Nat, k = (kk : Int) := ⟨k.toNat, by omega⟩
    refine hK.out _ _ (HS.out _ D0) ?_
    clear hK K
    intro hS1
    have hkk : kk < n0 := by omega
    have hkm : (kk : Int) < (n0 : Int) := by omega
    clear hk
    (try simp only [Act.put, List.getElem_toArray, List.getElem_cons_succ, List.getElem_cons_zero, List.setIfInBounds_toArray, List.set_cons_zero, List.set_cons_succ])
    (refine wpAnyH_take (i := 7) (v := ?_) rfl (by kernel_rfl) (by kernel_rfl) (by kernel_rfl) (fun _ _ _ h => h) (Or.inl ⟨by rfl, ?_⟩) (by assumption) ?_; rotate_left; focus (intro w hSw; (try dsimp only at hSw); go_simp; try with_reducible rfl); try simp only [Act.put, List.getElem_toArray, List.getElem_cons_succ, List.getElem_cons_zero, List.setIfInBounds_toArray, List.set_cons_zero, List.set_cons_succ])
    (refine wpAnyH_take (i := 8) (v := ?_) rfl (by kernel_rfl) (by kernel_rfl) (by kernel_rfl) (fun _ _ _ h => h) (Or.inl ⟨by rfl, ?_⟩) (by assumption) ?_; rotate_left; focus (intro w hSw; (try dsimp only at hSw); go_simp; try with_reducible rfl); try simp only [Act.put, List.getElem_toArray, List.getElem_cons_succ, List.getElem_cons_zero, List.setIfInBounds_toArray, List.set_cons_zero, List.set_cons_succ])
    (refine wpAnyH_take (i := 9) (v := ?_) rfl (by kernel_rfl) (by kernel_rfl) (by kernel_rfl) (fun _ _ _ h => h) (Or.inl ⟨by rfl, ?_⟩) (by assumption) ?_; rotate_left; focus (intro w hSw; (try dsimp only at hSw); go_simp; try with_reducible rfl); try simp only [Act.put, List.getElem_toArray, List.getElem_cons_succ, List.getElem_cons_zero, List.setIfInBounds_toArray, List.set_cons_zero, List.set_cons_succ])
    (refine wpAnyH_take (i := 10) (v := ?_) rfl (by kernel_rfl) (by kernel_rfl) (by kernel_rfl) (fun _ _ _ h => h) (Or.inl ⟨by rfl, ?_⟩) (by assumption) ?_; rotate_left; focus (intro w hSw; (try dsimp only at hSw); go_simp; try with_reducible rfl); try simp only [Act.put, List.getElem_toArray, List.getElem_cons_succ, List.getElem_cons_zero, List.setIfInBounds_toArray, List.set_cons_zero, List.set_cons_succ])
    refine wpAnyH_done (by kernel_rfl) ?_ _
    go_wp2_with fail
    go_meet
    exact ⟨kk, hkk, by rw [List.getD_eq_getElem?_getD, List.getElem?_eq_getElem (by omega)]; rfl, D0⟩
  obtain ⟨k, hk, rfl, q5⟩ := hcut
  have E5 := E4.trans q5
  have hs45 := q5.size
  have gw5 := gw4.ext q5
  have hw5 := hw4.ext q5
  replace KC := KC.ext q5
  replace KA := KA.ext q5
  have hc5 := KC.lt
  generalize hid0 : (b0.getD k Pl.back0).id = ID at *
  have HPB := Lib.hid (gprobe_any H cf b0 _ _ 0 ID false _ hw5 (by omega))
  clear HS D0 q5 E4 gw4 hw4 hw5 HPK
  go_wp2_with fail
  refine HPB.out.mono ?_
  rintro e W6 (⟨k', z, hz', hzid, rfl, hw6, gb, hgb, q6⟩ | ⟨hno, _⟩)
  case inr => exact absurd hid0 (hno k (by omega))
  have hgb3 := HHV.out gb hgb
  have E6 : Ext w W6 := Below.trans E5 (q6.below E5.size (fun g hg => by simp at hg; omega))
  have gw6 := gw5.kp q6 (fun g hg hm => by have := HGA.out g hg; simp at hm; omega) (fun j hj hm => by have := HGV.out j hj; simp at hm; omega)
  have hs46 : W4.heap.size ≤ W6.heap.size := Nat.le_trans hs45 q6.size
  replace KC := KC.kp q6 (fun hm => by simp at hm; omega)
  replace KA := KA.kp q6 (fun hm => by simp at hm; omega)
  have HMV := Lib.hid (moves_plain (src := y2) (port := x3) HOK.out hz')
  have HOK2 := Lib.hid (cfg_set HOK.out hz' false)
  have HID := Lib.hid hzid
  generalize hbs : b0.set k' { z with up := false } = b1 at *
  clear hz' hzid hid0 hbs E5 gw5 q6 HPB
  have c8 : W6.cell? ⟨w.heap.size, 8, none⟩ = some (.int .i64 cf.door) := KC.cells 8
  have la : (Instr.loadAt 23 (.pointer (some ⟨w.heap.size + 1, 0, none⟩))).run Tryz.prog W6 = .ok (.agg #[.int .i64 y2.x0, .int .i64 y2.x1, .int .i64 y2.x2, .int .i64 y2.x3, .int .i64 y2.x4, .int .i64 y2.x5, .int .i64 y2.x6, .int .i64 y2.x7]) W6 := KA.six0
  have lb : (Instr.loadAt 23 (.pointer (some ⟨w.heap.size, 0, none⟩))).run Tryz.prog W6 = .ok (.agg #[.int .i64 cf.vip.x0, .int .i64 cf.vip.x1, .int .i64 cf.vip.x2, .int .i64 cf.vip.x3, .int .i64 cf.vip.x4, .int .i64 cf.vip.x5, .int .i64 cf.vip.x6, .int .i64 cf.vip.x7]) W6 := KC.cfgVip
  have HSE := Lib.hid (sent_any (ask x3 cf.door) y2 cf.vip 9 none 0 0 [] W6 Ints.nil Pl.IsB.nil (Nat.zero_le _))
  unfold Six.v at HSE
  go_wp2_with ((apply load_by rfl _ _ rfl _ rfl); (focus (with_reducible assumption)))
  refine HSE.out.mono ?_
  rintro e W7 ⟨⟨v7, rfl, o7⟩, q7⟩
  have E7 := E6.trans q7
  have gw7 := gw6.ext q7
  have hw7 := hw6.ext q7
  replace KC := KC.ext q7
  replace KA := KA.ext q7
  have hs67 := q7.size
  obtain ⟨a7, n7, c7, rfl, hn7, r7, _⟩ := o7.readn
  have HI := Lib.hid (gin6_any G cf b0 _ _ 0 a7 n7 c7 _ W7 gw7 HOK.out r7 (sentX_isB cf y2 x3) hn7 (no_head cf y2 x3))
  have HNH := Lib.hid (no_head cf y2 x3)
  have HSB := Lib.hid (sentX_isB cf y2 x3)
  generalize sentX (ask x3 cf.door) y2 cf.vip 9 [] = XS at *
  generalize g6 cf b0 (PS.zero cf.blocks.toNat) [] 0 XS = X1 at *
  have HGM := Lib.hid (fun g (hm : g ∈ G.T.mut) => HGA.out g (by simp [GG.all, TG.mut_all _ _ hm]))
  have HHM := Lib.hid (fun g (hm : g ∈ H.T.mut) => HHA.out g (by simp [GG.all, TG.mut_all _ _ hm]))
  clear la lb c8 HSE E6 gw6 hw6 q7 gw7 r7
  go_wp2_with fail
  refine HI.out.mono ?_
  rintro e W8 ⟨⟨v8, rfl, o8⟩, gw8, k8⟩
  have E8 : Ext w W8 := Ext.kpAll E7 (fun g hg => by have := HGA.out g hg; omega) k8
  have hw8 := hw7.kp k8 (fun g hg hm => by have h1 := HHA.out g hg; have h2 := HGM.out g hm; omega) (fun j hj hm => by have h1 := HHV.out j hj; have h2 := HGM.out j hm; omega)
  replace KC := KC.kp k8 (fun hm => by have := HGM.out _ hm; omega)
  replace o7 := o7.kp k8 (fun j hj hm => by have h1 := (o7.lt j hj).1; have h2 := HGM.out j hm; omega)
  have hs78 := k8.size
  obtain ⟨_, _, _, hv7, _, r8, _⟩ := o7.readn
  cases hv7
  have HI2 := Lib.hid (gin6_any H cf b1 _ _ 0 a7 n7 c7 XS W8 hw8 HOK2.out r8 HSB.out hn7 HNH.out)
  generalize g6 cf b1 (PS.zero cf.blocks.toNat) [] 0 XS = X2 at *
  clear HI E7 hw7 k8 o7 r8 KA
  obtain ⟨u8, hu8⟩ : ∃ u8, u8 = v8 := ⟨_, rfl⟩
  rw [← hu8]
  have HU8 := Lib.hid hu8
  clear hu8
  go_wp2_with fail
  refine HI2.out.mono ?_
  rintro e W9 ⟨⟨v9, rfl, o9⟩, _, k9⟩
  have E9 : Ext w W9 := Ext.kpAll E8 (fun g hg => by have := HHA.out g hg; omega) k9
  have gw9 := gw8.kp k9 (fun g hg hm => by have h1 := HGA.out g hg; have h2 := HHM.out g hm; omega) (fun j hj hm => by have h1 := HGV.out j hj; have h2 := HHM.out j hm; omega)
  replace KC := KC.kp k9 (fun hm => by have := HHM.out _ hm; omega)
  replace o8 := o8.kp k9 (fun j hj hm => by have h1 := (o8.lt j hj).1; have h2 := HHM.out j hm; omega)
  rw [HU8.out]
  obtain ⟨a8, n8, c8, rfl, hn8, r8, _⟩ := o8.readn
  obtain ⟨a9, n9, c9, rfl, hn9, r9, _⟩ := o9.readn
  clear HI2 E8 gw8 hw8 k9 o8 o9 HU8
  by_cases hq1 : X1.q = 0
  case neg =>
    have h2 : X2.q ≠ 0 := by
      rcases HMV.out with ⟨_, h⟩ | ⟨x, _, h, _⟩
      · exact h
      · exact absurd (by rw [h]) hq1
    rw [erv_ne hq1, erv_ne h2]
    unfold errv
    have HE := Lib.hid E9
    clear hq1 h2 E9 gw9 KC r8 r9
    go_wp2_with fail
    go_returns
    exact ⟨rfl, HE.out⟩
  have hmv : ∃ x, x ∈ b0 ∧ X1 = ⟨0, sent4 (ask 1024 x.door) cf.near x.addr 8 [], (PS.zero cf.blocks.toNat).take y2, [oneBd (fl cf y2 x3) x.addr x.door]⟩ ∧ BackOk (ask 1024 x.door) cf.near x.addr 8 ([] : List Int).length ∧ (x.id = z.id ∨ (X2.q = 0 ∧ X2.out = sent4 (ask 1024 x.door) cf.near x.addr 8 [])) := by
    rcases HMV.out with ⟨h, _⟩ | h
    · exact absurd hq1 h
    · exact h
  obtain ⟨x, hxm, hX1, hbk, hor⟩ := hmv
  have e0 : erv X1.q = .nilIface := by rw [hq1]; rfl
  rw [e0]
  clear e0 hq1
  subst hX1
  have HXM := Lib.hid hxm
  have HOR := Lib.hid hor
  have HO := Lib.hid (opened_ok (ask 1024 x.door) cf.near x.addr 8 [] a8 n8 c8 W9 r8 Pl.IsB.nil hbk hn8)
  have HR8 := Lib.hid (show Ints .u8 W9 a8 n8 (sent4 (ask 1024 x.door) cf.near x.addr 8 []) from r8)
  have HR9 := Lib.hid r9
  generalize sent4 (ask 1024 x.door) cf.near x.addr 8 [] = OUT at HR8 HOR
  have hgw9 : GW W9 G cf b0 ((PS.zero cf.blocks.toNat).take y2) [oneBd (fl cf y2 x3) x.addr x.door] 0 := gw9
  generalize hX2q : X2.q = Q2 at *
  clear hX2q hxm hor hbk r8 r9 gw9
  go_wp2_with fail
  refine HO.out.mono ?_
  rintro e W10 ⟨z1, z2, z3, a10, n10, c10, rfl, _, q10⟩
  have hk9c := fun V (E : Ext W9 V) => (show V.cell? ⟨w.heap.size, 22, none⟩ = some (.slice (some ⟨b', off, none⟩) n0 m0) from (KC.ext E).cells 22)
  have HE9 := Lib.hid E9
  have HB9 := Lib.hid (fun V (E : Ext W9 V) => HB.out.ext (HE9.out.trans E))
  have E10 := E9.trans q10
  replace KC := KC.ext q10
  have hc10 := KC.lt
  have KX := (Blk.new W10 44 (c4 0 0 0 0 0 (.slice none 0 0))).alloc (.cells #[.int .i64 0, .int .i64 0, .int .i64 0, .int .i64 0, .int .i64 0, .int .i64 0, .int .i64 0, .slice none 0 0] 40)
  have KY := Blk.at (n := W10.heap.size + 1) (W10.alloc (.cells (c4 0 0 0 0 0 (.slice none 0 0)) 44)) 40 #[.int .i64 0, .int .i64 0, .int .i64 0, .int .i64 0, .int .i64 0, .int .i64 0, .int .i64 0, .slice none 0 0] (by simp)
  have st := sto4 KX cf.near x.addr 8 17 0 z1 z2 z3
  have KX2 := KX.row (c4 cf.near x.addr 8 17 0 (.slice z1 z2 z3))
  have KY2 := KY.farRow (k := W10.heap.size) (by omega) (c4 cf.near x.addr 8 17 0 (.slice z1 z2 z3))
  have st2 := sto KY2 (ask 1024 x.door) a10 n10 c10
  have KX3 := KX2.farRow (k := W10.heap.size + 1) (by omega) ((ask 1024 x.door).cells (.slice a10 n10 c10))
  have q11 := ((((Ext.refl W10).alloc (.cells (c4 0 0 0 0 0 (.slice none 0 0)) 44)).alloc (.cells #[.int .i64 0, .int .i64 0, .int .i64 0, .int .i64 0, .int .i64 0, .int .i64 0, .int .i64 0, .slice none 0 0] 40)).row (k := W10.heap.size) (Nat.le_refl _) (c4 cf.near x.addr 8 17 0 (.slice z1 z2 z3))).row (k := W10.heap.size + 1) (Nat.le_succ _) ((ask 1024 x.door).cells (.slice a10 n10 c10))
  have q911 := q10.trans q11
  clear KX KY KX2 KY2 KC E10 E9 q10 q11 HO
  go_upto_region 19 with (first | ((apply store_by rfl _ _ _ rfl _ rfl); (focus (with_reducible assumption)); (focus rfl)) | ((apply store_by rfl _ _ _ rfl _ rfl); (focus (exact st2)); (focus rfl)))
  refine at_worldE (fun W => Ext W9 W ∧ Blk W W10.heap.size 44 (c4 cf.near x.addr 8 17 0 (.slice z1 z2 z3))) ⟨q911, KX3⟩ ?_
  clear q911 KX3 st st2
  rintro W11 ⟨q11, KX⟩
  generalize W10.heap.size = gx at *
  have HBN := Lib.hid (gbinds_any G cf b0 _ _ 0 W11 (hgw9.ext q11))
  go_wp2_with fail
  refine HBN.out.mono ?_
  rintro e W12 ⟨vl, rfl, ol, q12⟩
  have q13 := q11.trans q12
  obtain ⟨al, nl, cl, rfl, hnl, sl⟩ := ol.read
  have hnl1 : nl = 1 := sl.1.symm
  subst hnl1
  obtain ⟨bl, offl, hal, _, hcl⟩ := sl.at (Ext.refl _) (by omega)
  subst hal
  have HFAR := Lib.hid (show W12.cell? ⟨bl, offl + 21, none⟩ = some (.int .i64 x.door) from hcl 0 _ rfl 21 _ rfl)
  have HDST := Lib.hid (show W12.cell? ⟨gx, 1, none⟩ = some (.int .i64 x.addr) from (KX.ext q12).cells 1)
  have HK9 := Lib.hid hk9c
  have hcl1 : (1 : Int) ≤ (cl : Int) := by omega
  clear KX q11 q12 ol sl hcl HBN hgw9 hnl
  go_wp2_with fail
  go_loopw [22, 23] (fun o i wr => ∃ kk : Nat, kk ≤ n0 ∧ i = .int .i64 kk ∧ o = .bool ((b0.take kk).any (isOwn z.id x)) ∧ Ext W12 wr) (fun _ i _ => n0 - (intOf i).toNat)
  case atStart => exact ⟨0, Nat.zero_le _, rfl, rfl, Ext.refl _⟩
  case round =>
    obtain ⟨kk, hkk, rfl, rfl, Er⟩ := hrel
    have c22 : wr.cell? ⟨w.heap.size, 22, none⟩ = some (.slice (some ⟨b', off, none⟩) n0 m0) := HK9.out wr (q13.trans Er)
    by_cases hlt : kk < n0
    case neg =>
      obtain rfl : n0 = kk := by omega
      have hall : (b0.take n0).any (isOwn z.id x) = b0.any (isOwn z.id x) := by rw [← hl0, List.take_length]
      rw [hall]
      have HE := Lib.hid (HE9.out.trans (q13.trans Er))
      have k1 := conv_str (c := c8) (HR8.out.ext (q13.trans Er))
      have k2 := conv_str (c := c9) (HR9.out.ext (q13.trans Er))
      cases ho : b0.any (isOwn z.id x) with
      | true =>
        clear k1 k2 ho hall Er
        go_wp2_with fail
        go_returns
        exact ⟨rfl, HE.out⟩
      | false =>
        have hne : x.id ≠ z.id := fun he => by
          have : b0.any (isOwn z.id x) = true := List.any_eq_true.2 ⟨x, HXM.out, by unfold isOwn; simp [he]⟩
          rw [ho] at this
          cases this
        have h2 : Q2 = 0 ∧ X2.out = OUT := by
          rcases HOR.out with h | h
          · exact absurd h hne
          · exact h
        rw [h2.2] at k2
        rw [h2.1, erv_zero]
        generalize strOfNums OUT = zz at k1 k2
        clear ho hall Er hne h2
        go_wp2_with fail
        go_returns
        exact ⟨rfl, HE.out⟩
    case pos =>
      have hkm : (kk : Int) < (n0 : Int) := by omega
      have hstep : (b0.take (kk + 1)).any (isOwn z.id x) = ((b0.take kk).any (isOwn z.id x) || isOwn z.id x (b0.getD kk Pl.back0)) := by
        rw [List.take_succ_eq_append_getElem (by rw [hl0]; exact hlt), List.any_append]
        simp [List.getD, hl0, hlt]
      rw [show isOwn z.id x (b0.getD kk Pl.back0) = ((b0.getD kk Pl.back0).id == z.id && ((b0.getD kk Pl.back0).addr == x.addr && (b0.getD kk Pl.back0).door == x.door)) from rfl] at hstep
      have HST := Lib.hid hstep
      clear hstep
      have wk : IntKind.i64.wrap ((kk : Int) + 1) = (kk : Int) + 1 := IntWalk.i64_in _ (by omega)
      have HE := Lib.hid Er
      cases ho : (b0.take kk).any (isOwn z.id x) with
      | true =>
        rw [ho] at HST
        clear ho Er
        go_wp2_with fail
        go_quiet (fail)
        go_wp2_with fail
        go_roundw
        case rel => exact ⟨kk + 1, by omega, by go_num, by rw [HST.out]; rfl, HE.out.drewN _⟩
        case measure => simp [intOf] <;> omega
      | false =>
        rw [ho, Bool.false_or] at HST
        obtain ⟨b2, o2, he, _, hcc⟩ := (HB9.out wr (q13.trans Er)).at (Ext.refl _) (by omega)
        cases he
        obtain ⟨d0, d1, d2, _⟩ := hcc kk hlt
        have f1 : wr.cell? ⟨gx, 1, none⟩ = some (.int .i64 x.addr) := (Below.cell Er (World.block_lt_of_cell? W12 _ HDST.out)).trans HDST.out
        have f2 : wr.cell? ⟨bl, offl + 21, none⟩ = some (.int .i64 x.door) := (Below.cell Er (World.block_lt_of_cell? W12 _ HFAR.out)).trans HFAR.out
        generalize hy : b0.getD kk Pl.back0 = y at *
        have HID2 := HID.out
        clear ho Er hcc hy
        cases e1 : (y.id == z.id) with
        | false =>
          rw [e1, Bool.false_and] at HST
          rw [HID2] at e1
          go_wp2_with fail
          go_quiet (fail)
          go_wp2_with fail
          go_roundw
          case rel => exact ⟨kk + 1, by omega, by go_num, by rw [HST.out], HE.out.drewN _⟩
          case measure => simp [intOf] <;> omega
        | true =>
          rw [e1, Bool.true_and] at HST
          rw [HID2] at e1
          cases e2 : (y.addr == x.addr) with
          | false =>
            rw [e2, Bool.false_and] at HST
            go_wp2_with fail
            go_quiet (fail)
            go_wp2_with fail
            go_roundw
            case rel => exact ⟨kk + 1, by omega, by go_num, by rw [HST.out], HE.out.drewN _⟩
            case measure => simp [intOf] <;> omega
          | true =>
            rw [e2, Bool.true_and] at HST
            cases e3 : (y.door == x.door) with
            | false =>
              rw [e3] at HST
              go_wp2_with fail
              go_quiet (fail)
              go_wp2_with fail
              go_roundw
              case rel => exact ⟨kk + 1, by omega, by go_num, by rw [HST.out], HE.out.drewN _⟩
              case measure => simp [intOf] <;> omega
            | true =>
              rw [e3] at HST
              go_wp2_with fail
              go_quiet (fail)
              go_wp2_with fail
              go_roundw
              case rel => exact ⟨kk + 1, by omega, by go_num, by rw [HST.out], HE.out.drewN _⟩
              case measure => simp [intOf] <;> omega
set_option maxRecDepth 100000 in
theorem lifted (os : Os) (started : os.Started) (H : Type) (enc : TypeId × Value → H) :
    ReturnsInHanded {} Tryz.checked os 3 .any (Rows.topMovesSpec.pre6 enc Tryz.prog Tryz.f3 Rows.topMovesRow.domain false) (Rows.topMovesSpec.post enc Tryz.prog Tryz.f3 false true false false) := by
  refine returnsInHanded_of_change (C := Tryz.checked) own started (by kernel_rfl) Tryz.func3
    (ChangeSpec.witness6 (enc := enc) (C := Tryz.checked) false ⟨#[], #[.agg #[.int .i64 0, .int .i64 0, .int .i64 0, .int .i64 0, .int .i64 0, .int .i64 0, .int .i64 0, .int .i64 0, .int .i64 0, .int .i64 0, .int .i64 0, .int .i64 0, .int .i64 0, .int .i64 0, .int .i64 0, .int .i64 0, .int .i64 0, .int .i64 0, .int .i64 0, .int .i64 0, .int .i64 0, .bool false, .slice none 0 0], .int .i64 0, .agg #[.int .i64 0, .int .i64 0, .int .i64 0, .int .i64 0, .int .i64 0, .int .i64 0, .int .i64 0, .int .i64 0], .int .i64 0], []⟩ 8 (by kernel_rfl) (by kernel_rfl) (by kernel_rfl) (by kernel_rfl)) ?_
  intro W base args ds gs before hval0 hW hcnd _
  have hval : ∀ (j : Nat) t v, Tryz.f3.params[j]? = some t → args[j]? = some v → Value.okWide Tryz.prog W .any base t v := hval0
  have hW' := hW
  obtain ⟨p, q, hA0, hV, rfl, hfz, hnd⟩ := hW
  have hA : DataW.TrodAll enc Tryz.prog W 0 (fun _ => true) true Tryz.f3.params.toList args.toList ds p := hA0
  rw [Tryz.params3] at hA hval
  obtain ⟨v0, vs0, d0, ds0, p0, q0, hargs, rfl, rfl, h0, r0⟩ := trodAll_cons hA
  obtain ⟨v1, vs1, d1, ds1, p1, q1, rfl, rfl, rfl, h1, r1⟩ := trodAll_cons r0
  obtain ⟨v2, vs2, d2, ds2, p2, q2, rfl, rfl, rfl, h2, r2⟩ := trodAll_cons r1
  obtain ⟨v3, vs3, d3, ds3, p3, q3, rfl, rfl, rfl, h3, r3⟩ := trodAll_cons r2
  obtain ⟨rfl, rfl, rfl⟩ := trodAll_nil r3
  obtain rfl : args = #[v0, v1, v2, v3] := by cases args; simp_all
  obtain ⟨rfl, rfl⟩ := trodVars_none hV
  have lt0 : ∀ x ∈ p0, x.block < W.heap.size := by obtain ⟨m, hm⟩ := h0; exact DataW.trod_lt m _ _ _ hm
  have k0 := h0
  obtain ⟨cf0, a0, n0, m0, b0, rfl, w0⟩ := open_cfg (hval 0 26 v0 rfl rfl) h0
  have lt1 : ∀ x ∈ p1, x.block < W.heap.size := by obtain ⟨m, hm⟩ := h1; exact DataW.trod_lt m _ _ _ hm
  have k1 := h1
  obtain ⟨x1, rfl, _, _, w1'⟩ := open_int Tryz.underlying3 (hval 1 3 v1 rfl rfl) h1
  have w1 : IsInt x1 := wf_i64 w1'
  have lt2 : ∀ x ∈ p2, x.block < W.heap.size := by obtain ⟨m, hm⟩ := h2; exact DataW.trod_lt m _ _ _ hm
  have k2 := h2
  obtain ⟨s2, rfl, w2⟩ := open_six (hval 2 23 v2 rfl rfl) h2
  have lt3 : ∀ x ∈ p3, x.block < W.heap.size := by obtain ⟨m, hm⟩ := h3; exact DataW.trod_lt m _ _ _ hm
  have k3 := h3
  obtain ⟨x3, rfl, _, _, w3'⟩ := open_int Tryz.underlying3 (hval 3 3 v3 rfl rfl) h3
  have w3 : IsInt x3 := wf_i64 w3'
  clear hA0 hval0
  refine (walk cf0 a0 n0 m0 b0 x1 s2 x3 W w0 w1 w2 w3).mono fun e W' ⟨he, bel⟩ => ?_
  subst he
  exact ⟨_, rfl, _, _, _, [], _, [], hW', trodAll_mk1 (shut_bool Tryz.underlying4 _), (trodAll_cons_mk (Below.trod laidOut (by kernel_rfl) (of_decide_eq_true (by kernel_rfl)) k0 bel lt0) (trodAll_cons_mk (Below.trod laidOut (by kernel_rfl) (of_decide_eq_true (by kernel_rfl)) k1 bel lt1) (trodAll_cons_mk (Below.trod laidOut (by kernel_rfl) (of_decide_eq_true (by kernel_rfl)) k2 bel lt2) (trodAll_cons_mk (Below.trod laidOut (by kernel_rfl) (of_decide_eq_true (by kernel_rfl)) k3 bel lt3) trodAll_mk0)))), rfl, bel.frame _, fun h => by cases h⟩

theorem over : Rows.topMovesRow.holds Tryz.pinned (OpenSpec.ofChange Rows.topMovesSpec) :=
  OpenClaim.holds_of_wide 3 Tryz.f3 rfl rfl rfl rfl rfl rfl rfl ⟨rfl, rfl, rfl, rfl, rfl⟩ rfl rfl rfl rfl rfl (by kernel_rfl) Tryz.func3 (by kernel_rfl)
    (of_decide_eq_true (by kernel_rfl)) (by unfold Func.isWrapper; first | (rw [if_pos (by decide +kernel)]; kernel_rfl) | (rw [if_neg (by decide +kernel)]; exact ⟨rfl, rfl⟩))
    (fun os started H enc _ => lifted os started H enc)

/-- THE STATEMENT. -/
theorem proved : Rows.TopMovesSaid := over
#print axioms proved
end Go.Proofs.YtbjogkpepfgegaaGreatDoor.topMoves
