/- gate.Probe: a server is found, and put up or down; gate.Binds. Conditions: as each lemma states them. -/
import Derived.Test.YtbjogkpepfgegaaGreatDoorK37
import Derived.Test.YtbjogkpepfgegaaGreatDoorK36
namespace Go.Proofs.YtbjogkpepfgegaaGreatDoor
open Go.RowKit
theorem bkcells_up : ∀ (bs : List Pl.Back) (k : Nat) (z : Pl.Back) (up : Bool), bs[k]? = some z → bkcells (bs.set k { z with up := up }) = (bkcells bs).set (k * 6 + 4) (.bool up)
  | [], k, z, up, h => by simp at h
  | b :: t, 0, z, up, h => by
    have : b = z := by simpa using h
    subst this
    rfl
  | b :: t, k + 1, z, up, h => by
    have ih := bkcells_up t k z up (by simpa using h)
    have e : ∀ (x : Pl.Back) (l : List Pl.Back), bkcells (x :: l) = [.int .i64 x.id, .int .i64 x.addr, .int .i64 x.door, .int .i64 x.weight, .bool x.up, .bool x.drain] ++ bkcells l := fun x l => by simp [bkcells]
    rw [List.set_cons_succ, e, e, ih, List.set_append_right _ _ (by simp; omega)]
    congr 1
    congr 1
    simp
    omega
theorem prb1_any (g o bx : Nat) (up : Bool) (v : Value) (w : World) (K : Blk w bx 4 #[.bool up]) (c : w.cell? ⟨g, o + 4, none⟩ = some v) (f : w.frozen? ⟨g, o + 4, none⟩ = false) :
    Calls Tryz.prog 23 #[.pointer (some ⟨g, o, none⟩), .pointer (some ⟨bx, 0, none⟩)] w fun e w' => e = .returned (.tuple #[]) ∧ w' = w.setCell ⟨g, o + 4, none⟩ (.bool up) := by
  have c0 : w.cell? ⟨bx, 0, none⟩ = some (.bool up) := K.cells 0
  clear K
  go_enter Tryz.func23, Tryz.ntmps23
  go_wp2_with fail
  go_returns
  exact ⟨rfl, rfl⟩
theorem chg1_any (x : Pl.Back) (b : Nat) (id : Int) (w : World) (K : Blk w b 3 #[.int .i64 id]) :
    Calls Tryz.prog 53 #[backv x, .pointer (some ⟨b, 0, none⟩)] w fun e w' => e = .returned (.bool (x.id == id)) ∧ Ext w w' := by
  have K0 := Blk.new w 34 #[.int .i64 x.id, .int .i64 x.addr, .int .i64 x.door, .int .i64 x.weight, .bool x.up, .bool x.drain]
  have HE := Lib.hid ((Ext.refl w).alloc (.cells #[.int .i64 x.id, .int .i64 x.addr, .int .i64 x.door, .int .i64 x.weight, .bool x.up, .bool x.drain] 34))
  have c0 : (w.alloc (.cells #[.int .i64 x.id, .int .i64 x.addr, .int .i64 x.door, .int .i64 x.weight, .bool x.up, .bool x.drain] 34)).cell? ⟨w.heap.size, 0, none⟩ = some (.int .i64 x.id) := K0.cells 0
  have c1 : (w.alloc (.cells #[.int .i64 x.id, .int .i64 x.addr, .int .i64 x.door, .int .i64 x.weight, .bool x.up, .bool x.drain] 34)).cell? ⟨b, 0, none⟩ = some (.int .i64 id) := (K.alloc _).cells 0
  clear K K0
  go_enter Tryz.func53, Tryz.ntmps53
  go_wp2_with fail
  go_returns
  exact ⟨rfl, HE.out⟩
/-- Which server is found first. -/
def IdxGot (bs : List Pl.Back) (id : Int) (e : Ending) : Prop :=
  (∃ k : Nat, k < bs.length ∧ (bs.getD k Pl.back0).id = id ∧ e = .returned (.int .i64 k)) ∨ ((∀ j, j < bs.length → (bs.getD j Pl.back0).id ≠ id) ∧ e = .returned (.int .i64 (-1)))
set_option maxRecDepth 100000 in
set_option maxHeartbeats 2000000 in
theorem idx_any (a : Option Addr) (n c : Nat) (bs : List Pl.Back) (b : Nat) (id : Int) (w : World) (hb : Backs w a n bs) (hn : n ≤ 8) (K : Blk w b 3 #[.int .i64 id]) :
    Calls Tryz.prog 52 #[.slice a n c, .func (.func 53) #[] #[.pointer (some ⟨b, 0, none⟩)]] w fun e w' => IdxGot bs id e ∧ Ext w w' := by
  have HB := Lib.hid hb
  have HL := Lib.hid hb.1
  have HK := Lib.hid K
  clear hb K
  go_enter Tryz.func52, Tryz.ntmps52
  go_wp2_with fail
  go_loopw [8] (fun i wr => ∃ k : Nat, k ≤ n ∧ i = .int .i64 k ∧ Ext w wr ∧ ∀ j, j < k → (bs.getD j Pl.back0).id ≠ id) (fun i _ => n - (intOf i).toNat)
  case atStart => exact ⟨0, Nat.zero_le _, rfl, Ext.refl _, fun j hj => absurd hj (Nat.not_lt_zero _)⟩
  case round =>
    obtain ⟨k, hk, rfl, hE, hF⟩ := hrel
    have HF := Lib.hid hF
    clear hF
    by_cases hlt : k < n
    case neg =>
      obtain rfl : n = k := by omega
      have HE := Lib.hid hE
      clear hE
      go_wp2_with fail
      go_returns
      exact ⟨.inr ⟨fun j hj => HF.out j (by rw [HL.out] at hj; exact hj), rfl⟩, HE.out⟩
    case pos =>
      obtain ⟨b', off, rfl, _, hc⟩ := HB.out.at hE (by omega)
      obtain ⟨c0, c1, c2, c3, c4, c5⟩ := hc k hlt
      have HC := Lib.hid (chg1_any (bs.getD k Pl.back0) b id wr (HK.out.ext hE))
      have HE := Lib.hid hE
      have wk : IntKind.i64.wrap ((k : Int) + 1) = (k : Int) + 1 := IntWalk.i64_in _ (by omega)
      clear hc hE
      generalize hx : bs.getD k Pl.back0 = x at *
      have HX := Lib.hid hx
      clear hx
      go_wp2_with fail
      refine HC.out.mono ?_
      rintro e w2 ⟨rfl, q2⟩
      clear c0 c1 c2 c3 c4 c5 HC
      by_cases hid : x.id = id
      · have hb : (x.id == id) = true := by simp [hid]
        have HI := Lib.hid hid
        rw [hb]
        clear hid hb
        go_wp2_with fail
        go_returns
        exact ⟨.inl ⟨k, by rw [HL.out]; exact hlt, by rw [HX.out]; exact HI.out, rfl⟩, HE.out.trans q2⟩
      · have hb : (x.id == id) = false := by simp [hid]
        have HI := Lib.hid hid
        rw [hb]
        clear hid hb
        go_wp2_with fail
        go_roundw
        case rel => exact ⟨k + 1, by omega, by go_num, HE.out.trans q2, fun j hj => by
          rcases Nat.lt_succ_iff_lt_or_eq.1 hj with h | rfl
          · exact HF.out j h
          · rw [HX.out]; exact HI.out⟩
        case measure => simp [intOf] <;> omega
/-- One of a gate's servers is written anew. -/
theorem GW.bks_set {w : World} {G : GG} {c : Cfg} {bs : List Pl.Back} {s : PS} {B : List Bd} {now : Int} (h : GW w G c bs s B now) {g k : Nat} {cap : Nat} {z : Pl.Back} (hv : G.bv = .slice (some ⟨g, 0, none⟩) bs.length cap) (hz : bs[k]? = some z) (up : Bool) :
    GW (w.setCell ⟨g, k * 6 + 4, none⟩ (.bool up)) G c (bs.set k { z with up := up }) s B now := by
  have hb := h.bks
  have hno : g ∉ G.all := h.bk g (by rw [hv]; rfl)
  have hk : Kp [g] w (w.setCell ⟨g, k * 6 + 4, none⟩ (.bool up)) := Kp.cell w g (k * 6 + 4) (.bool up)
  obtain ⟨m, hm⟩ := h.str
  refine ⟨h.blk.kp hk (fun hm => hno (by simp at hm; simp [GG.all, ← hm])), h.tab.kp hk (fun x hx hm => hno (by simp at hm; subst hm; simp [GG.all, hx])), ⟨m, (hk.block _ (Array.getElem?_eq_some_iff.1 hm).1 (fun hm => hno (by simp at hm; simp [GG.all, ← hm]))).trans hm⟩, ?_, h.apart, h.bk⟩
  unfold OwnB at hb ⊢
  rw [hv] at hb ⊢
  rw [bkcells_up bs k z up hz, List.length_set]
  exact (World.ownsRow.stored hb (k * 6 + 4) (.bool up)).1
def ProbeGot (w : World) (G : GG) (c : Cfg) (bs : List Pl.Back) (s : PS) (B : List Bd) (now id : Int) (up : Bool) (e : Ending) (w' : World) : Prop :=
  (∃ k z, bs[k]? = some z ∧ z.id = id ∧ e = .returned .nilIface ∧ GW w' G c (bs.set k { z with up := up }) s B now ∧ ∃ g, G.bv.ownBlock = some g ∧ Kp [g] w w') ∨
  ((∀ j, j < bs.length → (bs.getD j Pl.back0).id ≠ id) ∧ e = .returned (errv 4) ∧ GW w' G c bs s B now ∧ Ext w w')
set_option maxRecDepth 100000 in
set_option maxHeartbeats 2000000 in
theorem gchange_up (G : GG) (c : Cfg) (bs : List Pl.Back) (s : PS) (B : List Bd) (now id : Int) (up : Bool) (bx : Nat) (w : World) (h : GW w G c bs s B now) (hn : bs.length ≤ 8) (Kx : Blk w bx 4 #[.bool up]) :
    Calls Tryz.prog 22 #[.pointer (some ⟨G.g, 0, none⟩), .int .i64 id, .func (.func 23) #[] #[.pointer (some ⟨bx, 0, none⟩)]] w (ProbeGot w G c bs s B now id up) := by
  have K0 := Blk.new w 3 #[.int .i64 id]
  have E0 := (Ext.refl w).alloc (.cells #[.int .i64 id] 3)
  have c22 := (h.ext E0).nums.2.2.2.2.2.1
  have hb := h.bks
  obtain ⟨a, n, cap, hbv, hnc, hbk⟩ := hb.read
  have HN := Lib.hid (idx_any a n cap bs w.heap.size id _ (hbk.ext E0) (by rw [← hbk.1]; exact hn) K0)
  have HG := Lib.hid (fun w' (E : Ext w w') => h.ext E)
  have HX := Lib.hid (fun w' (E : Ext w w') => Kx.ext E)
  have HE := Lib.hid E0
  have HL := Lib.hid hbk.1
  have HBV := Lib.hid hbv
  have hbk0 := hbk.2
  have HB0 := Lib.hid hb
  rw [hbv] at c22
  clear h hb hn Kx K0 E0 hbk
  go_enter Tryz.func22, Tryz.ntmps22
  go_wp2_with fail
  refine HN.out.mono ?_
  rintro e w1 ⟨hi, q1⟩
  have E1 := HE.out.trans q1
  clear HN HE q1 c22
  rcases hi with ⟨k, hk, hid, rfl⟩ | ⟨hno, rfl⟩
  · have hk' : k < n := by rw [← HL.out]; exact hk
    obtain ⟨g, hg⟩ : ∃ g, a = some ⟨g, 0, none⟩ := by
      rcases HB0.out.2 with ⟨h0, h1⟩ | ⟨g, cap', cur, h0, _⟩
      · rw [HBV.out] at h0
        cases h0
        omega
      · rw [HBV.out] at h0
        cases h0
        exact ⟨g, rfl⟩
    subst hg
    have hz : bs[k]? = some (bs.getD k Pl.back0) := by
      rw [List.getElem?_eq_getElem hk]
      simp [List.getD, hk]
    have gw := HG.out w1 E1
    have c22 := gw.nums.2.2.2.2.2.1
    rw [HBV.out] at c22
    have ho := gw.bks
    unfold OwnB at ho
    rw [HBV.out] at ho
    have hln : n = bs.length := HL.out.symm
    have hcell : w1.cell? ⟨g, k * 6 + 4, none⟩ = some (.bool (bs.getD k Pl.back0).up) := by
      rw [hln] at ho
      have := World.ownsRow.cellAt ho (k * 6 + 4) (by first | omega | (rw [bkcells_length]; omega))
      rw [this, bkcells_at bs k 4 hk (by omega)]
      rfl
    have hfz : w1.frozen? ⟨g, k * 6 + 4, none⟩ = false := by
      rw [hln] at ho
      exact World.ownsRow.frozenAt ho (k * 6 + 4)
    have HP := Lib.hid (prb1_any g (k * 6) bx up _ w1 (HX.out w1 E1) hcell hfz)
    have HF := Lib.hid (And.intro gw (And.intro hz hid))
    have hkn : (k : Int) < (n : Int) := by omega
    clear gw ho hcell hfz hz hid
    go_wp2_with fail
    refine HP.out.mono ?_
    rintro e w2 ⟨rfl, rfl⟩
    obtain ⟨gw, hz, hid⟩ := HF.out
    have HF2 := Lib.hid (gw.bks_set (cap := cap) (by rw [HBV.out, hln]) hz up)
    clear gw
    go_wp2_with fail
    go_returns
    exact .inl ⟨k, _, hz, hid, rfl, HF2.out, g, by rw [HBV.out]; rfl, (E1.kp [g]).trans (Kp.cell w1 g (k * 6 + 4) (.bool up))⟩
  · have HF := Lib.hid hno
    clear hno
    go_wp2_with fail
    go_returns
    exact .inr ⟨HF.out, rfl, HG.out w1 E1, E1⟩
set_option maxRecDepth 100000 in
set_option maxHeartbeats 1000000 in
theorem gprobe_any (G : GG) (c : Cfg) (bs : List Pl.Back) (s : PS) (B : List Bd) (now id : Int) (up : Bool) (w : World) (h : GW w G c bs s B now) (hn : bs.length ≤ 8) :
    Calls Tryz.prog 8 #[.pointer (some ⟨G.g, 0, none⟩), .int .i64 id, .bool up] w (ProbeGot w G c bs s B now id up) := by
  have K0 := Blk.new w 4 #[.bool up]
  have E0 := (Ext.refl w).alloc (.cells #[.bool up] 4)
  have HC := Lib.hid (gchange_up G c bs s B now id up w.heap.size _ (h.ext E0) hn K0)
  have HE := Lib.hid E0
  clear h hn K0 E0
  go_enter Tryz.func8, Tryz.ntmps8
  go_wp2_with fail
  refine HC.out.mono ?_
  rintro e w1 (⟨k, z, hz, hid, rfl, gw, g, hg, q⟩ | ⟨hno, rfl, gw, q⟩)
  · have HF := Lib.hid gw
    clear gw
    go_wp2_with fail
    go_returns
    exact .inl ⟨k, z, hz, hid, rfl, HF.out, g, hg, (HE.out.kp _).trans q⟩
  · have HF := Lib.hid gw
    have HN := Lib.hid hno
    unfold errv
    clear gw hno
    go_wp2_with fail
    go_returns
    exact .inr ⟨HN.out, rfl, HF.out, HE.out.trans q⟩
set_option maxRecDepth 100000 in
set_option maxHeartbeats 1000000 in
theorem gbinds_any (G : GG) (c : Cfg) (bs : List Pl.Back) (s : PS) (B : List Bd) (now : Int) (w : World) (h : GW w G c bs s B now) :
    Calls Tryz.prog 12 #[.pointer (some ⟨G.g, 0, none⟩)] w fun e w' => ∃ v, e = .returned v ∧ KB.Own 52 w' w.heap.size v B ∧ Ext w w' := by
  have c23 := h.nums.2.2.2.2.2.2.1
  have HA := Lib.hid (all_any G.T s B w h.tab)
  clear h
  go_enter Tryz.func12, Tryz.ntmps12
  go_wp2_with fail
  refine HA.out.mono ?_
  rintro e w' ⟨v, rfl, o, q⟩
  have HF := Lib.hid (And.intro o q)
  clear o q
  go_wp2_with fail
  go_returns
  exact ⟨v, rfl, HF.out.1, HF.out.2⟩
end Go.Proofs.YtbjogkpepfgegaaGreatDoor
