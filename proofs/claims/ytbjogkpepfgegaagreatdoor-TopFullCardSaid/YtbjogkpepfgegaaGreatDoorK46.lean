/- gate.In6, of a packet whose flow gets no head. Conditions: as each lemma states them. -/
import Derived.Test.YtbjogkpepfgegaaGreatDoorK45
import Derived.Test.YtbjogkpepfgegaaGreatDoorK35
import Derived.Test.YtbjogkpepfgegaaGreatDoorK32
import Derived.Test.YtbjogkpepfgegaaGreatDoorK13
import Derived.Test.YtbjogkpepfgegaaGreatDoorK17
import Derived.Test.YtbjogkpepfgegaaGreatDoorK36
namespace Go.Proofs.YtbjogkpepfgegaaGreatDoor
open Go.RowKit
theorem Own.kp {S : List Nat} {w w' : World} {B : Nat} {v : Value} {xs : List Int} (h : Own w B v xs) (k : Kp S w w') (hS : ∀ k, v.ownBlock = some k → k ∉ S) : Own w' B v xs := by
  have hC := h.lt
  refine ⟨h.1, ?_⟩
  rcases h.2 with hn | ⟨g, cap, cur, rfl, hg, hh, rest⟩
  · exact .inl hn
  · exact .inr ⟨g, cap, cur, rfl, hg, by rw [k.block g (hC g rfl).2 (hS g rfl)]; exact hh, rest⟩
/-- What a bind's numbers are. -/
structure BdOk (b : Bd) : Prop where
  near : 1024 ≤ b.near ∧ b.near ≤ 65535
  back : 0 ≤ b.back ∧ b.back < 4294967296
  far : 0 ≤ b.far ∧ b.far ≤ 65535
  flow : b.flow.Ok
theorem GW.bdOk {w : World} {G : GG} {c : Cfg} {bs : List Pl.Back} {s : PS} {B : List Bd} {now : Int} (h : GW w G c bs s B now) {b : Bd} (hb : b ∈ B) : BdOk b := by
  have hi := h.tab.inv
  obtain ⟨_, _, _, ht, _⟩ := h.tab.ex
  have hr := (Inv.range hi.toInv0 ht.prt.n1).1 b hb
  have hl := hi.low b hb
  have ho := hi.ok b hb
  exact ⟨⟨hl, by omega⟩, ho.2.1, ho.2.2.1, ho.1⟩
theorem gBind_ok {w w' : World} {G : GG} {c : Cfg} {bs : List Pl.Back} {s : PS} {B : List Bd} {now : Int} {f : Flow} {flags : Int} (h : GW w G c bs s B now) (h' : GW w' G c bs (gBind c bs s B now f flags).s (gBind c bs s B now f flags).B now) (hq : (gBind c bs s B now f flags).q = 0) : BdOk (gBind c bs s B now f flags).b := by
  unfold gBind at *
  cases hf : findF f B with
  | some b => exact h.bdOk (findF_some hf).1
  | none =>
    rw [hf] at h' hq
    dsimp only at h' hq ⊢
    unfold gNew at *
    split at hq
    case isFalse => cases hq
    rename_i h1
    rw [if_pos h1] at h' ⊢
    split at hq
    case isFalse h2 => exact absurd hq h2
    rename_i h2
    rw [if_pos h2] at h' ⊢
    unfold gMade at *
    split at hq
    case isFalse h3 => exact absurd hq h3
    rename_i h3
    rw [if_pos h3] at h' ⊢
    exact h'.bdOk ((insB_perm _ _).mem_iff.2 (List.mem_cons_self ..))
theorem GW.noStream {w : World} {G : GG} {c : Cfg} {bs : List Pl.Back} {s : PS} {B : List Bd} {now : Int} (h : GW w G c bs s B now) (near : Int) : (Instr.lookup 69 (.map (some G.gS)) (.int .i64 near) false).run Tryz.prog w = .ok (.pointer none) w := by
  obtain ⟨k, hk⟩ := h.str
  have hm : MapIs keyI w G.gS [] k := ⟨hk, fun _ h => by cases h⟩
  exact hm.lookup keyI_finds 69 90 Tryz.underlying69 (.pointer none) (by kernel_rfl) near false
theorem Flow.one (f : Flow) : f.cells.all (·.oneCell') = true := by simp [Flow.cells, Value.oneCell']
theorem stoFl {w : World} {R : Nat} (k : Blk w R 50 #[.int .i64 0, .int .i64 0, .int .i64 0, .int .i64 0, .int .i64 0, .int .i64 0, .int .i64 0, .int .i64 0, .int .i64 0, .int .i64 0, .int .i64 0, .int .i64 0, .int .i64 0, .int .i64 0, .int .i64 0, .int .i64 0, .int .i64 0, .int .i64 0, .int .i64 0]) (kd : Int) (a : Six) (pt : Int) (d : Six) (dr : Int) :
    (Instr.storeAt 50 (.pointer (some ⟨R, 0, none⟩)) (.agg #[.int .i64 kd, .int .i64 a.x0, .int .i64 a.x1, .int .i64 a.x2, .int .i64 a.x3, .int .i64 a.x4, .int .i64 a.x5, .int .i64 a.x6, .int .i64 a.x7, .int .i64 pt, .int .i64 d.x0, .int .i64 d.x1, .int .i64 d.x2, .int .i64 d.x3, .int .i64 d.x4, .int .i64 d.x5, .int .i64 d.x6, .int .i64 d.x7, .int .i64 dr])).run Tryz.prog w = .ok () (w.setRow R (⟨kd, a, pt, d, dr⟩ : Flow).cells) := k.store (cs := (⟨kd, a, pt, d, dr⟩ : Flow).cells) rfl Tryz.sizeFlow (Flow.one _)
theorem Kp.set2 {S : List Nat} {a b : World} (h : Kp S a b) {p : Addr} (hp : a.heap.size ≤ p.block) (u : Value) : Kp S a (b.setCell p u) :=
  ⟨h.os, h.tape, h.output, by simpa using h.size, fun i hi hn => (Below.heap_setCell b p u i (by omega)).trans (h.block i hi hn)⟩
theorem GW.setN {w w0 : World} {G : GG} {c : Cfg} {bs : List Pl.Back} {s s0 : PS} {B B0 : List Bd} {now n0 : Int} {p : Addr} (h : GW w G c bs s B now) (h0 : GW w0 G c bs s0 B0 n0) (hp : w0.heap.size ≤ p.block) (u : Value) : GW (w.setCell p u) G c bs s B now :=
  h.kp (S := [p.block]) (by obtain ⟨g, i, _⟩ := p; exact ⟨rfl, rfl, rfl, by simp, fun j _ hn => Below.heap_setCell w _ u j (by simpa using hn)⟩) (fun g hg hm => by
    have := h0.lt g hg
    simp at hm
    omega) (fun j hj hm => by
    have := (h0.bks.lt j hj).2
    simp at hm
    omega)
/-- Where a gate's call begins: what was given it. -/
def InGot (w : World) (G : GG) (c : Cfg) (bs : List Pl.Back) (now : Int) (R : GR) (e : Ending) (w' : World) : Prop :=
  (∃ v, e = .returned (.tuple #[v, erv R.q]) ∧ Own w' w.heap.size v R.out) ∧ GW w' G c bs R.s R.B now ∧ Kp G.T.mut w w'
theorem inGot_err {w w' : World} {G : GG} {c : Cfg} {bs : List Pl.Back} {s : PS} {B : List Bd} {now q : Int} {R : GR} {v : Value} (hR : R = ⟨q, [], s, B⟩) (hv : v = erv q) (g : GW w' G c bs s B now) (k : Kp G.T.mut w w') : InGot w G c bs now R (.returned (.tuple #[.slice none 0 0, v])) w' := by
  subst hR
  subst hv
  exact ⟨⟨_, rfl, Own.nil _ _⟩, g, k⟩
set_option maxRecDepth 100000 in
set_option maxHeartbeats 4000000 in
theorem gin6_any (G : GG) (c : Cfg) (bs : List Pl.Back) (s : PS) (B : List Bd) (now : Int) (a : Option Addr) (n cap : Nat) (xs : List Int) (w : World) (h : GW w G c bs s B now) (hok : CfgOk c bs) (hr : Ints .u8 w a n xs) (hb : Pl.IsB xs) (hnc : n ≤ cap)
    (hh : gHead c (segFlow (Pl.dec6 xs) (g6sg xs)) = false) :
    Calls Tryz.prog 10 #[.pointer (some ⟨G.g, 0, none⟩), .slice a n cap] w (InGot w G c bs now (g6 c bs s B now xs)) := by
  have HG := Lib.hid (fun w' (E : Ext w w') => h.ext E)
  have HOK := Lib.hid hok
  have HR := Lib.hid hr
  have HB := Lib.hid hb
  have HH := Lib.hid hh
  have HMUT := Lib.hid (fun g (hm : g ∈ G.T.mut) => h.lt g (by simp [GG.all, TG.mut_all _ _ hm]))
  have HSZ := Lib.hid h
  have hg0 : G.g ∉ G.T.mut := fun hm => by
    have ha := h.apart
    simp only [GG.all, List.nodup_cons] at ha
    exact ha.1 (by simp [TG.mut_all _ _ hm])
  have hgG : G.g < w.heap.size := h.lt _ (by simp [GG.all])
  clear h hok hr hb hh
  go_enter Tryz.func10, Tryz.ntmps10
  cases h6 : is6B xs
  case false =>
    have HX := Lib.hid (show g6 c bs s B now xs = ⟨5, [], s, B⟩ by unfold g6; rw [h6, if_neg Bool.false_ne_true])
    have HC := Lib.hid (decode6_bad a n cap xs w HR.out HB.out (fun hh => by rw [is6B_iff.2 hh] at h6; cases h6))
    clear h6
    go_wp2_with fail
    refine HC.out.mono ?_
    rintro e W1 ⟨he, q1⟩
    unfold Bad6 at he
    subst he
    have KX := Blk.new W1 61 #[.int .i64 0, .int .i64 0, .int .i64 0, .int .i64 0, .int .i64 0, .int .i64 0, .int .i64 0, .int .i64 0, .int .i64 0, .int .i64 0, .int .i64 0, .int .i64 0, .int .i64 0, .int .i64 0, .int .i64 0, .int .i64 0, .int .i64 0, .int .i64 0, .slice none 0 0]
    have st := sto60 KX
    have HE := Lib.hid ((q1.alloc (.cells #[.int .i64 0, .int .i64 0, .int .i64 0, .int .i64 0, .int .i64 0, .int .i64 0, .int .i64 0, .int .i64 0, .int .i64 0, .int .i64 0, .int .i64 0, .int .i64 0, .int .i64 0, .int .i64 0, .int .i64 0, .int .i64 0, .int .i64 0, .int .i64 0, .slice none 0 0] 61)).row q1.size #[.int .i64 0, .int .i64 0, .int .i64 0, .int .i64 0, .int .i64 0, .int .i64 0, .int .i64 0, .int .i64 0, .int .i64 0, .int .i64 0, .int .i64 0, .int .i64 0, .int .i64 0, .int .i64 0, .int .i64 0, .int .i64 0, .int .i64 0, .int .i64 0, .slice none 0 0])
    unfold errv
    clear KX q1
    go_wp2_with ((apply store_by rfl _ _ _ rfl _ rfl); (focus (with_reducible assumption)); (focus rfl))
    go_returns
    exact inGot_err HX.out rfl (HG.out _ HE.out) (HE.out.kp _)
  have HC := Lib.hid (decode6_ok a n cap xs w HR.out HB.out hnc (is6B_iff.1 h6))
  have HX := Lib.hid (show g6 c bs s B now xs = if g6q xs = 0 then g6seg c bs s B now (Pl.dec6 xs) (g6sg xs) (g6D xs) else ⟨g6q xs, [], s, B⟩ by unfold g6; rw [h6, if_pos rfl])
  have HGD := Lib.hid (Pl.dec6_good HB.out)
  have HLEN := Lib.hid (show (xs.drop 40).length ≤ 320 by have := (is6B_iff.1 h6).1; rw [List.length_drop]; omega)
  have HBD := Lib.hid (HB.out.drop 40)
  clear h6
  go_wp2_with fail
  refine HC.out.mono ?_
  rintro e W1 ⟨v1, rfl, o1, q1⟩
  obtain ⟨a1, n1, c1, rfl, hn1, r1, hc1⟩ := o1.readn
  have hl1 := r1.len
  have KX := Blk.new W1 61 #[.int .i64 0, .int .i64 0, .int .i64 0, .int .i64 0, .int .i64 0, .int .i64 0, .int .i64 0, .int .i64 0, .int .i64 0, .int .i64 0, .int .i64 0, .int .i64 0, .int .i64 0, .int .i64 0, .int .i64 0, .int .i64 0, .int .i64 0, .int .i64 0, .slice none 0 0]
  have st := sto6l KX (Pl.dec6 xs) a1 n1 c1
  have KP := KX.row ((Pl.dec6 xs).cells (.slice a1 n1 c1))
  have E1 := (q1.alloc (.cells #[.int .i64 0, .int .i64 0, .int .i64 0, .int .i64 0, .int .i64 0, .int .i64 0, .int .i64 0, .int .i64 0, .int .i64 0, .int .i64 0, .int .i64 0, .int .i64 0, .int .i64 0, .int .i64 0, .int .i64 0, .int .i64 0, .int .i64 0, .int .i64 0, .slice none 0 0] 61)).row q1.size ((Pl.dec6 xs).cells (.slice a1 n1 c1))
  have hgp : w.heap.size ≤ W1.heap.size := q1.size
  have r2 := Ints.keepRow (r1.ext ((Ext.refl W1).alloc (.cells #[.int .i64 0, .int .i64 0, .int .i64 0, .int .i64 0, .int .i64 0, .int .i64 0, .int .i64 0, .int .i64 0, .int .i64 0, .int .i64 0, .int .i64 0, .int .i64 0, .int .i64 0, .int .i64 0, .int .i64 0, .int .i64 0, .int .i64 0, .int .i64 0, .slice none 0 0] 61))) W1.heap.size ((Pl.dec6 xs).cells (.slice a1 n1 c1)) (fun h0 p hp => by
    obtain ⟨b, o, rfl, hb, _⟩ := r1.at h0
    cases hp
    show b ≠ _
    omega)
  clear KX q1 o1 r1 HC
  go_upto_region 4 with ((apply store_by rfl _ _ _ rfl _ rfl); (focus (with_reducible assumption)); (focus rfl))
  refine at_worldE (fun W => Ext w W ∧ Blk W W1.heap.size 61 ((Pl.dec6 xs).cells (.slice a1 n1 c1)) ∧ Ints .u8 W a1 n1 (xs.drop 40)) ⟨E1, KP, r2⟩ ?_
  clear E1 KP r2 st
  rintro W2 ⟨E2, KP, r2⟩
  generalize W1.heap.size = gp at *
  have HO := Lib.hid (open6_any (Pl.dec6 xs) a1 n1 c1 (xs.drop 40) W2 HGD.out (by rw [← hl1]; exact HLEN.out) r2 HBD.out hn1 hc1)
  have hq6 : Pl.opQ (Pl.dec6 xs).kind (xs.drop 40) (val6 (Pl.dec6 xs).src (Pl.dec6 xs).dst (Pl.dec6 xs).kind (n1 : Nat)) = g6q xs := by unfold g6q g6over; rw [hl1]
  have HQV := Lib.hid (show g6q xs = 0 → Pl.SegOk (g6sg xs) (g6D xs).length ∧ Pl.IsB (g6D xs) ∧ Pl.opV (Pl.dec6 xs).kind (xs.drop 40) (val6 (Pl.dec6 xs).src (Pl.dec6 xs).dst (Pl.dec6 xs).kind (n1 : Nat)) = g6sg xs ∧ Pl.opD (Pl.dec6 xs).kind (xs.drop 40) (val6 (Pl.dec6 xs).src (Pl.dec6 xs).dst (Pl.dec6 xs).kind (n1 : Nat)) = g6D xs from fun h0 => by
    obtain ⟨_, h2, h3, h4, _⟩ := op_zero HBD.out (hq6.trans h0)
    exact ⟨h4, HBD.out.drop _, h2, h3⟩)
  have HKD := Lib.hid (show (g6sg xs).kind = (Pl.dec6 xs).kind from Pl.decSeg_kind _ _)
  unfold OpGot at HO
  rw [hq6] at HO
  generalize Pl.opV (Pl.dec6 xs).kind (xs.drop 40) (val6 (Pl.dec6 xs).src (Pl.dec6 xs).dst (Pl.dec6 xs).kind (n1 : Nat)) = V at *
  generalize Pl.opD (Pl.dec6 xs).kind (xs.drop 40) (val6 (Pl.dec6 xs).src (Pl.dec6 xs).dst (Pl.dec6 xs).kind (n1 : Nat)) = D at *
  generalize g6q xs = Q at *
  generalize g6sg xs = sg at *
  generalize g6D xs = DD at *
  generalize hp6 : Pl.dec6 xs = p at *
  clear hq6 hp6
  have ld := KP.p6
  go_wp2_with ((apply load_by rfl _ _ rfl _ rfl); (focus (with_reducible assumption)))
  refine HO.out.mono ?_
  rintro e W3 ⟨a3, n3, c3, rfl, o3, q3⟩
  have KX := Blk.new W3 40 #[.int .i64 0, .int .i64 0, .int .i64 0, .int .i64 0, .int .i64 0, .int .i64 0, .int .i64 0, .slice none 0 0]
  have st := sto KX V a3 n3 c3
  have KS := KX.row (V.cells (.slice a3 n3 c3))
  have hgs : gp < W3.heap.size := (KP.ext q3).lt
  have E4 := ((E2.trans q3).alloc (.cells #[.int .i64 0, .int .i64 0, .int .i64 0, .int .i64 0, .int .i64 0, .int .i64 0, .int .i64 0, .slice none 0 0] 40)).row (E2.trans q3).size (V.cells (.slice a3 n3 c3))
  have KP4 := ((KP.ext q3).alloc (.cells #[.int .i64 0, .int .i64 0, .int .i64 0, .int .i64 0, .int .i64 0, .int .i64 0, .int .i64 0, .slice none 0 0] 40)).farRow (k := W3.heap.size) (by omega) (V.cells (.slice a3 n3 c3))
  have o4 := (o3.ext ((Ext.refl W3).alloc (.cells #[.int .i64 0, .int .i64 0, .int .i64 0, .int .i64 0, .int .i64 0, .int .i64 0, .int .i64 0, .slice none 0 0] 40))).rowOff (k := W3.heap.size) (fun j hj => by have := (o3.lt j hj).2; omega) (V.cells (.slice a3 n3 c3))
  have hg2 : w.heap.size ≤ W2.heap.size := E2.size
  have HOD := Lib.hid (show ∀ j, (Value.slice a3 n3 c3).ownBlock = some j → j ≠ W3.heap.size from fun j hj => by have := (o3.lt j hj).2; omega)
  clear KX KP q3 r2 o3 E2 ld HO
  by_cases hq : Q = 0
  case neg =>
    rw [if_neg hq] at HX
    have HE := Lib.hid E4
    have HQ := Lib.hid (show errv Q = erv Q from (erv_ne hq).symm)
    rw [erv_ne hq]
    unfold errv at HQ ⊢
    clear hq E4 KP4 o4 KS HQV
    go_wp2_with ((apply store_by rfl _ _ _ rfl _ rfl); (focus (with_reducible assumption)); (focus rfl))
    go_returns
    refine inGot_err HX.out ?_ (HG.out _ HE.out) (HE.out.kp _)
    rw [← HQ.out]
    rfl
  rw [if_pos hq] at HX
  obtain ⟨hsok, hDB, rfl, rfl⟩ := HQV.out hq
  have HSO := Lib.hid hsok
  have HDB := Lib.hid hDB
  subst hq
  rw [erv_zero]
  clear HQV hsok hDB
  go_upto_region 7 with ((apply store_by rfl _ _ _ rfl _ rfl); (focus (with_reducible assumption)); (focus rfl))
  refine at_worldE (fun W => Ext w W ∧ Blk W gp 61 (p.cells (.slice a1 n1 c1)) ∧ Blk W W3.heap.size 40 (V.cells (.slice a3 n3 c3)) ∧ Own W W2.heap.size (.slice a3 n3 c3) D) ⟨E4, KP4, KS, o4⟩ ?_
  clear E4 KP4 KS o4 st
  rintro W4 ⟨E4, KP, KS, oD⟩
  generalize W3.heap.size = gs at *
  obtain ⟨h16, _, _⟩ := KP.p6nums
  have hgood : b8 p.hop = true := by
    have := HGD.out
    unfold P6.good at this
    simp at this
    exact this.1.2
  obtain ⟨hop0, hop1⟩ := b8_yes hgood
  clear hgood
  by_cases hhop : p.hop < 2
  case pos =>
    have HE := Lib.hid E4
    have HY := Lib.hid (show g6seg c bs s B now p V D = ⟨7, [], s, B⟩ by unfold g6seg; rw [if_pos hhop])
    have d1 : decide (p.hop < 2) = true := decide_eq_true hhop
    clear hhop E4 KP KS oD
    go_wp2_with fail
    go_returns
    exact inGot_err (HX.out.trans HY.out) rfl (HG.out _ HE.out) (HE.out.kp _)
  have HY := Lib.hid (show g6seg c bs s B now p V D = if gWhQ c (segFlow p V) = 0 then g6out c p V D (gBind c bs s B now (segFlow p V) V.flags) else ⟨4, [], s, B⟩ by unfold g6seg; rw [if_neg hhop])
  have d1 : decide (p.hop < 2) = false := decide_eq_false hhop
  have HHOP := Lib.hid hhop
  clear hhop
  go_upto_region 9 with (fail)
  refine at_worldE (fun W => Ext w W ∧ Blk W gp 61 (p.cells (.slice a1 n1 c1)) ∧ Blk W gs 40 (V.cells (.slice a3 n3 c3)) ∧ Own W W2.heap.size (.slice a3 n3 c3) D) ⟨E4, KP, KS, oD⟩ ?_
  clear E4 KP KS oD d1 h16
  rintro W5 ⟨E5, KP, KS, oD⟩
  have la : (Instr.loadAt 23 (.pointer (some ⟨gp, 0, none⟩))).run Tryz.prog W5 = .ok (.agg #[.int .i64 p.src.x0, .int .i64 p.src.x1, .int .i64 p.src.x2, .int .i64 p.src.x3, .int .i64 p.src.x4, .int .i64 p.src.x5, .int .i64 p.src.x6, .int .i64 p.src.x7]) W5 := KP.p6src
  have lb : (Instr.loadAt 23 (.pointer (some ⟨gp, 8, none⟩))).run Tryz.prog W5 = .ok (.agg #[.int .i64 p.dst.x0, .int .i64 p.dst.x1, .int .i64 p.dst.x2, .int .i64 p.dst.x3, .int .i64 p.dst.x4, .int .i64 p.dst.x5, .int .i64 p.dst.x6, .int .i64 p.dst.x7]) W5 := KP.p6dst
  obtain ⟨c0, c1', c2, _⟩ := KS.sg
  have KX := Blk.new W5 50 #[.int .i64 0, .int .i64 0, .int .i64 0, .int .i64 0, .int .i64 0, .int .i64 0, .int .i64 0, .int .i64 0, .int .i64 0, .int .i64 0, .int .i64 0, .int .i64 0, .int .i64 0, .int .i64 0, .int .i64 0, .int .i64 0, .int .i64 0, .int .i64 0, .int .i64 0]
  have st := stoFl KX V.kind p.src V.frm p.dst V.to
  have KF := KX.row (segFlow p V).cells
  have hp5 := KP.lt
  have hs5 := KS.lt
  have hg5 : w.heap.size ≤ W5.heap.size := E5.size
  have E6 := (E5.alloc (.cells #[.int .i64 0, .int .i64 0, .int .i64 0, .int .i64 0, .int .i64 0, .int .i64 0, .int .i64 0, .int .i64 0, .int .i64 0, .int .i64 0, .int .i64 0, .int .i64 0, .int .i64 0, .int .i64 0, .int .i64 0, .int .i64 0, .int .i64 0, .int .i64 0, .int .i64 0] 50)).row E5.size (segFlow p V).cells
  have KP6 := (KP.alloc (.cells #[.int .i64 0, .int .i64 0, .int .i64 0, .int .i64 0, .int .i64 0, .int .i64 0, .int .i64 0, .int .i64 0, .int .i64 0, .int .i64 0, .int .i64 0, .int .i64 0, .int .i64 0, .int .i64 0, .int .i64 0, .int .i64 0, .int .i64 0, .int .i64 0, .int .i64 0] 50)).farRow (k := W5.heap.size) (by omega) (segFlow p V).cells
  have KS6 := (KS.alloc (.cells #[.int .i64 0, .int .i64 0, .int .i64 0, .int .i64 0, .int .i64 0, .int .i64 0, .int .i64 0, .int .i64 0, .int .i64 0, .int .i64 0, .int .i64 0, .int .i64 0, .int .i64 0, .int .i64 0, .int .i64 0, .int .i64 0, .int .i64 0, .int .i64 0, .int .i64 0] 50)).farRow (k := W5.heap.size) (by omega) (segFlow p V).cells
  have o6 := (oD.ext ((Ext.refl W5).alloc (.cells #[.int .i64 0, .int .i64 0, .int .i64 0, .int .i64 0, .int .i64 0, .int .i64 0, .int .i64 0, .int .i64 0, .int .i64 0, .int .i64 0, .int .i64 0, .int .i64 0, .int .i64 0, .int .i64 0, .int .i64 0, .int .i64 0, .int .i64 0, .int .i64 0, .int .i64 0] 50))).rowOff (k := W5.heap.size) (fun j hj => by have := (oD.lt j hj).2; omega) (segFlow p V).cells
  have HFOK := Lib.hid (show okF (segFlow p V) = true from by
    have hgd := HGD.out
    unfold P6.good at hgd
    simp at hgd
    exact okF_iff.2 ⟨HSO.out.1, hgd.1.1.1, hgd.1.1.2, HSO.out.2.1, HSO.out.2.2.1⟩)
  clear KX E5 KP KS oD
  go_upto_region 10 with (first | ((apply load_by rfl _ _ rfl _ rfl); (focus (with_reducible assumption))) | ((apply store_by rfl _ _ _ rfl _ rfl); (focus (with_reducible assumption)); (focus rfl)))
  refine at_worldE (fun W => Ext w W ∧ Blk W gp 61 (p.cells (.slice a1 n1 c1)) ∧ Blk W gs 40 (V.cells (.slice a3 n3 c3)) ∧ Own W W2.heap.size (.slice a3 n3 c3) D ∧ Blk W W5.heap.size 50 (segFlow p V).cells) ⟨E6, KP6, KS6, o6, KF⟩ ?_
  clear E6 KP6 KS6 o6 KF la lb st c0 c1' c2
  rintro W6 ⟨E6, KP, KS, oD, KF⟩
  generalize W5.heap.size = gf at *
  have HKK := Lib.hid (show V.kind = (segFlow p V).kind from rfl)
  have HW := Lib.hid (where_any G c bs s B now (segFlow p V) W6 (HG.out W6 E6))
  generalize hfl : segFlow p V = f at *
  have HFE := Lib.hid hfl
  clear hfl
  have ld := loaFl KF
  go_wp2_with ((apply load_by rfl _ _ rfl _ rfl); (focus (with_reducible assumption)))
  refine HW.out.mono ?_
  rintro e W7 ⟨⟨t, rfl, hL⟩, q7⟩
  have E7 := E6.trans q7
  replace KP := KP.ext q7
  replace KS := KS.ext q7
  replace oD := oD.ext q7
  replace KF := KF.ext q7
  clear E6 q7 ld HW
  by_cases hw : gWhQ c f = 0
  case neg =>
    rw [if_neg hw] at HY
    have hw4 : gWhQ c f = 4 := by
      unfold gWhQ at hw ⊢
      split <;> split <;> simp_all
    rw [hw4, show erv 4 = errv 4 from rfl]
    have HE := Lib.hid E7
    unfold errv
    clear hw hw4 E7 KP KS oD KF hL
    go_wp2_with fail
    go_returns
    exact inGot_err (HX.out.trans HY.out) rfl (HG.out _ HE.out) (HE.out.kp _)
  rw [if_pos hw] at HY
  have HL := Lib.hid (hL hw)
  rw [hw, erv_zero]
  clear hw hL
  have HC := Lib.hid (headed_any G c bs s B now f W7 (HG.out W7 E7))
  rw [HH.out] at HC
  have ld := loaFl KF
  go_wp2_with ((apply load_by rfl _ _ rfl _ rfl); (focus (with_reducible assumption)))
  refine HC.out.mono ?_
  rintro e W8 ⟨rfl, q8⟩
  have E8 := E7.trans q8
  replace KP := KP.ext q8
  replace KS := KS.ext q8
  replace oD := oD.ext q8
  replace KF := KF.ext q8
  replace HL := Lib.hid (HL.out.ext q8)
  clear E7 q8 ld HC
  go_upto_region 15 with (fail)
  refine at_worldE (fun W => Ext w W ∧ Blk W gp 61 (p.cells (.slice a1 n1 c1)) ∧ Blk W gs 40 (V.cells (.slice a3 n3 c3)) ∧ Own W W2.heap.size (.slice a3 n3 c3) D ∧ Blk W gf 50 f.cells ∧ Leads W G c f t) ⟨E8, KP, KS, oD, KF, HL.out⟩ ?_
  clear E8 KP KS oD KF HL
  rintro W9 ⟨E9, KP, KS, oD, KF, hL⟩
  have HBN := Lib.hid (gbind_any G c bs s B now f V a3 n3 c3 t W9 (HG.out W9 E9) HOK.out HFOK.out HKK.out HSO.out.2.2.2.2.2.1 hL HH.out)
  have HBK := Lib.hid (fun w' (g : GW w' G c bs (gBind c bs s B now f V.flags).s (gBind c bs s B now f V.flags).B now) => gBind_ok (flags := V.flags) (f := f) HSZ.out g)
  generalize gBind c bs s B now f V.flags = R at *
  have ldf := loaFl KF
  have lds := KS.seg
  go_wp2_with ((apply load_by rfl _ _ rfl _ rfl); (focus (with_reducible assumption)))
  refine HBN.out.mono ?_
  rintro e W10 ⟨rfl, gw10, k10⟩
  have K10 := (E9.kp G.T.mut).trans k10
  have hs10 := k10.size
  replace KP := KP.kp k10 (fun hm => by have := HMUT.out _ hm; omega)
  replace KS := KS.kp k10 (fun hm => by have := HMUT.out _ hm; omega)
  have hp10 := KP.lt
  have hs10' := KS.lt
  replace oD := oD.kp k10 (fun j hj hm => by have := HMUT.out _ hm; have := (oD.lt j hj).1; omega)
  clear ldf lds KF hL HBN E9 k10
  have KX := Blk.new W10 52 #[.int .i64 0, .int .i64 0, .int .i64 0, .int .i64 0, .int .i64 0, .int .i64 0, .int .i64 0, .int .i64 0, .int .i64 0, .int .i64 0, .int .i64 0, .int .i64 0, .int .i64 0, .int .i64 0, .int .i64 0, .int .i64 0, .int .i64 0, .int .i64 0, .int .i64 0, .int .i64 0, .int .i64 0, .int .i64 0, .int .i64 0]
  have st := stoBd KX R.b
  have KB := KX.row R.b.cells
  have hge := K10.size
  have k11 := (K10.alloc (.cells #[.int .i64 0, .int .i64 0, .int .i64 0, .int .i64 0, .int .i64 0, .int .i64 0, .int .i64 0, .int .i64 0, .int .i64 0, .int .i64 0, .int .i64 0, .int .i64 0, .int .i64 0, .int .i64 0, .int .i64 0, .int .i64 0, .int .i64 0, .int .i64 0, .int .i64 0, .int .i64 0, .int .i64 0, .int .i64 0, .int .i64 0] 52)).row K10.size R.b.cells
  have gw11 := (gw10.ext ((Ext.refl W10).alloc (.cells #[.int .i64 0, .int .i64 0, .int .i64 0, .int .i64 0, .int .i64 0, .int .i64 0, .int .i64 0, .int .i64 0, .int .i64 0, .int .i64 0, .int .i64 0, .int .i64 0, .int .i64 0, .int .i64 0, .int .i64 0, .int .i64 0, .int .i64 0, .int .i64 0, .int .i64 0, .int .i64 0, .int .i64 0, .int .i64 0, .int .i64 0] 52))).rowN HSZ.out K10.size R.b.cells
  have KP11 := (KP.alloc (.cells #[.int .i64 0, .int .i64 0, .int .i64 0, .int .i64 0, .int .i64 0, .int .i64 0, .int .i64 0, .int .i64 0, .int .i64 0, .int .i64 0, .int .i64 0, .int .i64 0, .int .i64 0, .int .i64 0, .int .i64 0, .int .i64 0, .int .i64 0, .int .i64 0, .int .i64 0, .int .i64 0, .int .i64 0, .int .i64 0, .int .i64 0] 52)).farRow (k := W10.heap.size) (by omega) R.b.cells
  have KS11 := (KS.alloc (.cells #[.int .i64 0, .int .i64 0, .int .i64 0, .int .i64 0, .int .i64 0, .int .i64 0, .int .i64 0, .int .i64 0, .int .i64 0, .int .i64 0, .int .i64 0, .int .i64 0, .int .i64 0, .int .i64 0, .int .i64 0, .int .i64 0, .int .i64 0, .int .i64 0, .int .i64 0, .int .i64 0, .int .i64 0, .int .i64 0, .int .i64 0] 52)).farRow (k := W10.heap.size) (by omega) R.b.cells
  have o11 := (oD.ext ((Ext.refl W10).alloc (.cells #[.int .i64 0, .int .i64 0, .int .i64 0, .int .i64 0, .int .i64 0, .int .i64 0, .int .i64 0, .int .i64 0, .int .i64 0, .int .i64 0, .int .i64 0, .int .i64 0, .int .i64 0, .int .i64 0, .int .i64 0, .int .i64 0, .int .i64 0, .int .i64 0, .int .i64 0, .int .i64 0, .int .i64 0, .int .i64 0, .int .i64 0] 52))).rowOff (k := W10.heap.size) (fun j hj => by have := (oD.lt j hj).2; omega) R.b.cells
  clear KX KP KS oD gw10 K10
  by_cases hq : R.q = 0
  case neg =>
    have HZ := Lib.hid (show g6out c p V D R = ⟨R.q, [], R.s, R.B⟩ by unfold g6out; rw [if_neg hq])
    have HT := Lib.hid (show errv R.q = erv R.q from (erv_ne hq).symm)
    have HE := Lib.hid (And.intro gw11 k11)
    rw [erv_ne hq]
    unfold errv at HT ⊢
    clear hq gw11 k11 KP11 KS11 o11 KB
    go_wp2_with ((apply store_by rfl _ _ _ rfl _ rfl); (focus (with_reducible assumption)); (focus rfl))
    go_returns
    refine inGot_err (HX.out.trans (HY.out.trans HZ.out)) ?_ HE.out.1 HE.out.2
    rw [← HT.out]
    rfl
  have HZ := Lib.hid (show g6out c p V D R = ⟨0, sent4 (V.ports R.b.near R.b.far) c.near R.b.back (p.hop - 1) D, R.s, R.B⟩ by unfold g6out; rw [if_pos hq])
  have HBO := Lib.hid (HBK.out _ gw11 hq)
  rw [hq, erv_zero]
  clear hq
  go_upto_region 18 with ((apply store_by rfl _ _ _ rfl _ rfl); (focus (with_reducible assumption)); (focus rfl))
  refine at_worldE (fun W => Kp G.T.mut w W ∧ GW W G c bs R.s R.B now ∧ Blk W gp 61 (p.cells (.slice a1 n1 c1)) ∧ Blk W gs 40 (V.cells (.slice a3 n3 c3)) ∧ Own W W2.heap.size (.slice a3 n3 c3) D ∧ Blk W W10.heap.size 52 R.b.cells) ⟨k11, gw11, KP11, KS11, o11, KB⟩ ?_
  clear k11 gw11 KP11 KS11 o11 KB st
  rintro W11 ⟨k11, gw11, KP, KS, oD, KB⟩
  generalize W10.heap.size = gx at *
  have HS0 : (fun V' => V'.cell? ⟨G.g, 24, none⟩ = some (.map (some G.gS)) ∧ V'.cell? ⟨gx, 19, none⟩ = some (.int .i64 R.b.near) ∧ (Instr.lookup 69 (.map (some G.gS)) (.int .i64 R.b.near) false).run Tryz.prog V' = .ok (.pointer none) V') W11.drew :=
    ⟨gw11.nums.2.2.2.2.2.2.2.1, KB.cells 19, (gw11.ext (Ext.refl W11).drew).noStream R.b.near⟩
  refine wp_region_held_drew (S := (fun V' => V'.cell? ⟨G.g, 24, none⟩ = some (.map (some G.gS)) ∧ V'.cell? ⟨gx, 19, none⟩ = some (.int .i64 R.b.near) ∧ (Instr.lookup 69 (.map (some G.gS)) (.int .i64 R.b.near) false).run Tryz.prog V' = .ok (.pointer none) V')) (by kernel_rfl) HS0 (fun hS0 => ?_)
  clear HS0
  have k12 := k11.drew
  have gw12 := gw11.ext (Ext.refl W11).drew
  have oD12 := oD.drew
  have KP12 := Blk.drew KP
  have KS12 := Blk.drew KS
  have KB12 := Blk.drew KB
  clear k11 gw11 oD KP KS KB
  generalize W11.drew = V1 at *
  (refine wpAnyH_take (i := 0) (v := ?_) rfl (by kernel_rfl) (by kernel_rfl) (by kernel_rfl) (fun _ _ _ h => h) (Or.inl ⟨by rfl, ?_⟩) (by assumption) ?_; rotate_left; focus (intro w hSw; (try dsimp only at hSw); go_simp; try with_reducible rfl); try simp only [Act.put, List.getElem_toArray, List.getElem_cons_succ, List.getElem_cons_zero, List.setIfInBounds_toArray, List.set_cons_zero, List.set_cons_succ])
  (refine wpAnyH_take (i := 1) (v := ?_) rfl (by kernel_rfl) (by kernel_rfl) (by kernel_rfl) (fun _ _ _ h => h) (Or.inl ⟨by rfl, ?_⟩) (by assumption) ?_; rotate_left; focus (intro w hSw; (try dsimp only at hSw); go_simp; try with_reducible rfl); try simp only [Act.put, List.getElem_toArray, List.getElem_cons_succ, List.getElem_cons_zero, List.setIfInBounds_toArray, List.set_cons_zero, List.set_cons_succ])
  (refine wpAnyH_take (i := 2) (v := ?_) rfl (by kernel_rfl) (by kernel_rfl) (by kernel_rfl) (fun _ _ _ h => h) (Or.inl ⟨by rfl, ?_⟩) (by assumption) ?_; rotate_left; focus (intro w hSw; (try dsimp only at hSw); go_simp; try with_reducible rfl); try simp only [Act.put, List.getElem_toArray, List.getElem_cons_succ, List.getElem_cons_zero, List.setIfInBounds_toArray, List.set_cons_zero, List.set_cons_succ])
  (refine wpAnyH_take (i := 3) (v := ?_) rfl (by kernel_rfl) (by kernel_rfl) (by kernel_rfl) (fun _ _ _ h => h) (Or.inl ⟨by rfl, ?_⟩) (by assumption) ?_; rotate_left; focus (intro w hSw; (try dsimp only at hSw); go_simp; try with_reducible rfl); try simp only [Act.put, List.getElem_toArray, List.getElem_cons_succ, List.getElem_cons_zero, List.setIfInBounds_toArray, List.set_cons_zero, List.set_cons_succ])
  (refine wpAnyH_take (i := 4) (v := ?_) rfl (by kernel_rfl) (by kernel_rfl) (by kernel_rfl) (fun _ _ _ h => h) (Or.inl ⟨by rfl, ?_⟩) (by assumption) ?_; rotate_left; focus (intro w hSw; (try dsimp only at hSw); go_simp; try with_reducible rfl); try simp only [Act.put, List.getElem_toArray, List.getElem_cons_succ, List.getElem_cons_zero, List.setIfInBounds_toArray, List.set_cons_zero, List.set_cons_succ])
  (refine wpAnyH_take (i := 5) (v := ?_) rfl (by kernel_rfl) (by kernel_rfl) (by kernel_rfl) (fun _ _ _ h => h) (Or.inl ⟨by rfl, ?_⟩) (by assumption) ?_; rotate_left; focus (intro w hSw; (try dsimp only at hSw); go_simp; try with_reducible rfl); try simp only [Act.put, List.getElem_toArray, List.getElem_cons_succ, List.getElem_cons_zero, List.setIfInBounds_toArray, List.set_cons_zero, List.set_cons_succ])
  (refine wpAnyH_take (i := 6) (v := ?_) rfl (by kernel_rfl) (by kernel_rfl) (by kernel_rfl) (fun _ _ _ h => h) (Or.inl ⟨by rfl, ?_⟩) (by assumption) ?_; rotate_left; focus (intro w hSw; (try dsimp only at hSw); go_simp; try with_reducible rfl); try simp only [Act.put, List.getElem_toArray, List.getElem_cons_succ, List.getElem_cons_zero, List.setIfInBounds_toArray, List.set_cons_zero, List.set_cons_succ])
  (refine wpAnyH_take (i := 7) (v := ?_) rfl (by kernel_rfl) (by kernel_rfl) (by kernel_rfl) (fun _ _ _ h => h) (Or.inl ⟨by rfl, ?_⟩) (by assumption) ?_; rotate_left; focus (intro w hSw; (try dsimp only at hSw); go_simp; try with_reducible rfl); try simp only [Act.put, List.getElem_toArray, List.getElem_cons_succ, List.getElem_cons_zero, List.setIfInBounds_toArray, List.set_cons_zero, List.set_cons_succ])
  refine wpAnyH_done (by kernel_rfl) ?_ _
  clear hS0
  go_upto_region 23 with (fail)
  refine at_worldE (fun W => Kp G.T.mut w W ∧ GW W G c bs R.s R.B now ∧ Blk W gp 61 (p.cells (.slice a1 n1 c1)) ∧ Blk W gs 40 (V.cells (.slice a3 n3 c3)) ∧ Own W W2.heap.size (.slice a3 n3 c3) D ∧ Blk W gx 52 R.b.cells) ⟨k12, gw12, KP12, KS12, oD12, KB12⟩ ?_
  clear k12 gw12 oD12 KP12 KS12 KB12
  rintro W12 ⟨k12, gw12, KP, KS, oD, KB⟩
  have hgs' : w.heap.size ≤ gs := by omega
  have hlx := KB.lt
  have hoD : ∀ j, (Value.slice a3 n3 c3).ownBlock = some j → j ≠ gs := HOD.out
  have c19 : W12.cell? ⟨gx, 19, none⟩ = some (.int .i64 R.b.near) := KB.cells 19
  have c21 : W12.cell? ⟨gx, 21, none⟩ = some (.int .i64 R.b.far) := KB.cells 21
  have fz := KS.free
  obtain ⟨_, cs1, cs2, _⟩ := KS.sg
  have k13 := (k12.set2 (p := ⟨gs, 1, none⟩) hgs' (.int .i64 R.b.near)).set2 (p := ⟨gs, 2, none⟩) hgs' (.int .i64 R.b.far)
  have KS13 : Blk ((W12.setCell ⟨gs, 1, none⟩ (.int .i64 R.b.near)).setCell ⟨gs, 2, none⟩ (.int .i64 R.b.far)) gs 40 ((V.ports R.b.near R.b.far).cells (.slice a3 n3 c3)) := (KS.put 1 (.int .i64 R.b.near)).put 2 (.int .i64 R.b.far)
  have KP13 := (KP.far (p := ⟨gs, 1, none⟩) (by show gp ≠ gs; omega) (.int .i64 R.b.near)).far (p := ⟨gs, 2, none⟩) (by show gp ≠ gs; omega) (.int .i64 R.b.far)
  have KB13 := (KB.far (p := ⟨gs, 1, none⟩) (by show gx ≠ gs; omega) (.int .i64 R.b.near)).far (p := ⟨gs, 2, none⟩) (by show gx ≠ gs; omega) (.int .i64 R.b.far)
  have gw13 := (gw12.setN HSZ.out (p := ⟨gs, 1, none⟩) hgs' (.int .i64 R.b.near)).setN HSZ.out (p := ⟨gs, 2, none⟩) hgs' (.int .i64 R.b.far)
  have o13 := (oD.off (p := ⟨gs, 1, none⟩) hoD (.int .i64 R.b.near)).off (p := ⟨gs, 2, none⟩) hoD (.int .i64 R.b.far)
  have HZ13 := Lib.hid (And.intro k13 (And.intro gw13 (And.intro KP13 (And.intro KS13 (And.intro o13 KB13)))))
  clear k12 gw12 KP KS oD KB k13 gw13 KP13 KS13 o13 KB13
  go_region
  obtain ⟨k13, gw13, KP13, KS13, o13, KB13⟩ := HZ13.out
  go_upto_region 24 with (fail)
  refine at_worldE (fun W => Kp G.T.mut w W ∧ GW W G c bs R.s R.B now ∧ Blk W gp 61 (p.cells (.slice a1 n1 c1)) ∧ Blk W gs 40 ((V.ports R.b.near R.b.far).cells (.slice a3 n3 c3)) ∧ Own W W2.heap.size (.slice a3 n3 c3) D ∧ Blk W gx 52 R.b.cells) (by first | exact ⟨k13, gw13, KP13, KS13, o13, KB13⟩ | exact ⟨k13.drew, gw13.ext (Ext.refl _).drew, KP13, KS13, o13.drew, KB13⟩) ?_
  clear k13 gw13 KP13 KS13 o13 KB13 c19 c21 fz cs1 cs2 HZ13
  rintro W13 ⟨k13, gw13, KP, KS, oD, KB⟩
  obtain ⟨a4, n4, c4', hv4, hn4, r4, hc4⟩ := oD.readn
  cases hv4
  have hld : D.length = n3 := r4.len
  have HOKP := Lib.hid (show Pl.SegOk (V.ports R.b.near R.b.far) n3 from by
    have h0 := HSO.out
    rw [hld] at h0
    have h1 := HBO.out.near
    have h2 := HBO.out.far
    exact ⟨h0.1, ⟨by show 0 ≤ R.b.near; omega, h1.2⟩, h2, h0.2.2.2⟩)
  have HCL := Lib.hid (fun V' (E : Ext W13 V') => close4_any (V.ports R.b.near R.b.far) c.near R.b.back (p.hop - 1) a3 n3 c3 D V' HOKP.out HOK.out.near HBO.out.back (r4.ext E) HDB.out)
  have ew : IntKind.i64.wrap (p.hop - 1) = p.hop - 1 := IntWalk.i64_in _ (by omega)
  have HS := Lib.hid (fun V' (E : Ext W13 V') => (show Blk V' gs 40 ((V.ports R.b.near R.b.far).cells (.slice a3 n3 c3)) ∧ V'.cell? ⟨G.g, 18, none⟩ = some (.int .i64 c.near) ∧ V'.cell? ⟨gx, 20, none⟩ = some (.int .i64 R.b.back) ∧ V'.cell? ⟨gp, 16, none⟩ = some (.int .i64 p.hop) from
    ⟨KS.ext E, (gw13.ext E).nums.2.2.1, (KB.ext E).cells 20, (KP.ext E).cells 16⟩))
  have D0 : Ext W13 W13.drew := (Ext.refl W13).drew
  have HK13 := Lib.hid k13
  have HW13 := Lib.hid gw13
  clear KP KS oD KB r4 hc4 k13 gw13
  go_cut [13, 7] (fun q er wc => ∃ g a5 n5 c5, q = .pointer (some ⟨g, 0, none⟩) ∧ er = .nilIface ∧ Blk wc g 44 (c4 c.near R.b.back (p.hop - 1) V.kind 0 (.slice a5 n5 c5)) ∧ Own wc W13.heap.size (.slice a5 n5 c5) (body4 (V.ports R.b.near R.b.far) c.near R.b.back D) ∧ Ext W13 wc)
  case first =>
    have HS0 := HS.out _ D0
    refine wp_region_held_drew (S := (fun W => Blk W gs 40 ((V.ports R.b.near R.b.far).cells (.slice a3 n3 c3)) ∧ W.cell? ⟨G.g, 18, none⟩ = some (.int .i64 c.near) ∧ W.cell? ⟨gx, 20, none⟩ = some (.int .i64 R.b.back) ∧ W.cell? ⟨gp, 16, none⟩ = some (.int .i64 p.hop))) (by kernel_rfl) HS0 (fun hS0 => ?_)
    clear HS0
    have D1 := D0
    generalize W13.drew = V1 at *
    (refine wpAnyH_take (i := 1) (v := ?_) rfl (by kernel_rfl) (by kernel_rfl) (by kernel_rfl) (fun _ _ _ h => h) (Or.inl ⟨by rfl, ?_⟩) (by assumption) ?_; rotate_left; focus (intro w hSw; (try dsimp only at hSw); go_simp; try with_reducible rfl); try simp only [Act.put, List.getElem_toArray, List.getElem_cons_succ, List.getElem_cons_zero, List.setIfInBounds_toArray, List.set_cons_zero, List.set_cons_succ])
    (refine wpAnyH_take (i := 2) (v := ?_) rfl (by kernel_rfl) (by kernel_rfl) (by kernel_rfl) (fun _ _ _ h => h) (Or.inl ⟨by rfl, ?_⟩) (by assumption) ?_; rotate_left; focus (intro w hSw; (try dsimp only at hSw); go_simp; try with_reducible rfl); try simp only [Act.put, List.getElem_toArray, List.getElem_cons_succ, List.getElem_cons_zero, List.setIfInBounds_toArray, List.set_cons_zero, List.set_cons_succ])
    (refine wpAnyH_take (i := 3) (v := ?_) rfl (by kernel_rfl) (by kernel_rfl) (by kernel_rfl) (fun _ _ _ h => h) (Or.inl ⟨by rfl, ?_⟩) (by assumption) ?_; rotate_left; focus (intro w hSw; (try dsimp only at hSw); go_simp; try with_reducible rfl); try simp only [Act.put, List.getElem_toArray, List.getElem_cons_succ, List.getElem_cons_zero, List.setIfInBounds_toArray, List.set_cons_zero, List.set_cons_succ])
    (refine wpAnyH_take (i := 4) (v := ?_) rfl (by kernel_rfl) (by kernel_rfl) (by kernel_rfl) (fun _ _ _ h => h) (Or.inl ⟨by rfl, ?_⟩) (by assumption) ?_; rotate_left; focus (intro w hSw; (try dsimp only at hSw); go_simp; try with_reducible rfl); try simp only [Act.put, List.getElem_toArray, List.getElem_cons_succ, List.getElem_cons_zero, List.setIfInBounds_toArray, List.set_cons_zero, List.set_cons_succ])
    (refine wpAnyH_take (i := 6) (v := ?_) rfl (by kernel_rfl) (by kernel_rfl) (by kernel_rfl) (fun _ _ _ h => h) (Or.inl ⟨by rfl, ?_⟩) (by assumption) ?_; rotate_left; focus (intro w hSw; (try dsimp only at hSw); go_simp; try with_reducible rfl); try simp only [Act.put, List.getElem_toArray, List.getElem_cons_succ, List.getElem_cons_zero, List.setIfInBounds_toArray, List.set_cons_zero, List.set_cons_succ])
    (refine wpAnyH_take (i := 8) (v := ?_) rfl (by kernel_rfl) (by kernel_rfl) (by kernel_rfl) (fun _ _ _ h => h) (Or.inl ⟨by rfl, ?_⟩) (by assumption) ?_; rotate_left; focus (intro w hSw; (try dsimp only at hSw); go_simp; try with_reducible rfl); try simp only [Act.put, List.getElem_toArray, List.getElem_cons_succ, List.getElem_cons_zero, List.setIfInBounds_toArray, List.set_cons_zero, List.set_cons_succ])
    refine wpAnyH_take (i := 0) rfl (by kernel_rfl) (by kernel_rfl) (by kernel_rfl) (fun _ _ _ h => h) (Or.inl ⟨by rfl, fun W hS => exec_load rfl rfl (Blk.seg hS.1)⟩) (by assumption) ?_
    (try simp only [Act.put, List.getElem_toArray, List.getElem_cons_succ, List.getElem_cons_zero, List.setIfInBounds_toArray, List.set_cons_zero, List.set_cons_succ])
    (refine wpAnyH_take (i := 5) (v := ?_) rfl (by kernel_rfl) (by kernel_rfl) (by kernel_rfl) (fun _ _ _ h => h) (Or.inl ⟨by rfl, ?_⟩) (by assumption) ?_; rotate_left; focus (intro w hSw; (try dsimp only at hSw); go_simp; try with_reducible rfl); try simp only [Act.put, List.getElem_toArray, List.getElem_cons_succ, List.getElem_cons_zero, List.setIfInBounds_toArray, List.set_cons_zero, List.set_cons_succ])
    (refine wpAnyH_take (i := 7) (v := ?_) rfl (by kernel_rfl) (by kernel_rfl) (by kernel_rfl) (fun _ _ _ h => h) (Or.inl ⟨by rfl, ?_⟩) (by assumption) ?_; rotate_left; focus (intro w hSw; (try dsimp only at hSw); go_simp; try with_reducible rfl); try simp only [Act.put, List.getElem_toArray, List.getElem_cons_succ, List.getElem_cons_zero, List.setIfInBounds_toArray, List.set_cons_zero, List.set_cons_succ])
    (refine wpAnyH_take (i := 9) (v := ?_) rfl (by kernel_rfl) (by kernel_rfl) (by kernel_rfl) (fun _ _ _ h => h) (Or.inl ⟨by rfl, ?_⟩) (by assumption) ?_; rotate_left; focus (intro w hSw; (try dsimp only at hSw); go_simp; try with_reducible rfl); try simp only [Act.put, List.getElem_toArray, List.getElem_cons_succ, List.getElem_cons_zero, List.setIfInBounds_toArray, List.set_cons_zero, List.set_cons_succ])
    (refine wpAnyH_take (i := 10) (v := ?_) rfl (by kernel_rfl) (by kernel_rfl) (by kernel_rfl) (fun _ _ _ h => h) (Or.inl ⟨by rfl, ?_⟩) (by assumption) ?_; rotate_left; focus (intro w hSw; (try dsimp only at hSw); go_simp; try with_reducible rfl); try simp only [Act.put, List.getElem_toArray, List.getElem_cons_succ, List.getElem_cons_zero, List.setIfInBounds_toArray, List.set_cons_zero, List.set_cons_succ])
    (try simp only [Act.put, List.getElem_toArray, List.getElem_cons_succ, List.getElem_cons_zero, List.setIfInBounds_toArray, List.set_cons_zero, List.set_cons_succ])
    refine wpAnyH_ready (rs := [11, 15]) (by kernel_rfl) (by simp) ?_
    refine AllReadyH.cons rfl (fun K hK => ?_) (AllReadyH.cons rfl (fun K hK => ?_) AllReadyH.nil)
    · go_simp
      go_at_call 33
      refine (HCL.out V1 D1).mono ?_
      rintro e V2 ⟨a5, n5, c5, rfl, o5, q⟩
      have D2 := D1.trans q
      have o6 := o5.mono D1.size
      refine hK.out _ _ (HS.out _ D2) ?_
      clear hK K
      intro hS1
      (try simp only [Act.put, List.getElem_toArray, List.getElem_cons_succ, List.getElem_cons_zero, List.setIfInBounds_toArray, List.set_cons_zero, List.set_cons_succ])
      (refine wpAnyH_take (i := 12) (v := ?_) rfl (by kernel_rfl) (by kernel_rfl) (by kernel_rfl) (fun _ _ _ h => h) (Or.inl ⟨by rfl, ?_⟩) (by assumption) ?_; rotate_left; focus (intro w hSw; (try dsimp only at hSw); go_simp; try with_reducible rfl); try simp only [Act.put, List.getElem_toArray, List.getElem_cons_succ, List.getElem_cons_zero, List.setIfInBounds_toArray, List.set_cons_zero, List.set_cons_succ])
      (refine wpAnyH_take (i := 13) (v := ?_) rfl (by kernel_rfl) (by kernel_rfl) (by kernel_rfl) (fun _ _ _ h => h) (Or.inl ⟨by rfl, ?_⟩) (by assumption) ?_; rotate_left; focus (intro w hSw; (try dsimp only at hSw); go_simp; try with_reducible rfl); try simp only [Act.put, List.getElem_toArray, List.getElem_cons_succ, List.getElem_cons_zero, List.setIfInBounds_toArray, List.set_cons_zero, List.set_cons_succ])
      (refine wpAnyH_take (i := 14) (v := ?_) rfl (by kernel_rfl) (by kernel_rfl) (by kernel_rfl) (fun _ _ _ h => h) (Or.inl ⟨by rfl, ?_⟩) (by assumption) ?_; rotate_left; focus (intro w hSw; (try dsimp only at hSw); go_simp; try with_reducible rfl); try simp only [Act.put, List.getElem_toArray, List.getElem_cons_succ, List.getElem_cons_zero, List.setIfInBounds_toArray, List.set_cons_zero, List.set_cons_succ])
      (refine wpAnyH_ready (rs := [15]) (by kernel_rfl) (by simp) ?_; refine AllReadyH.cons rfl (fun K hK => ?_) AllReadyH.nil)
      go_simp
      have KG := Blk.new V2 44 (c4 0 0 0 0 0 (.slice none 0 0))
      have D3 := D2.alloc (.cells (c4 0 0 0 0 0 (.slice none 0 0)) 44)
      have hge : W13.heap.size ≤ V2.heap.size := D2.size
      have ho6 : ∀ j, (Value.slice a5 n5 c5).ownBlock = some j → j ≠ V2.heap.size := fun j hj => by have := (o6.lt j hj).2; omega
      replace o6 := o6.ext ((Ext.refl V2).alloc (.cells (c4 0 0 0 0 0 (.slice none 0 0)) 44))
      refine hK.out _ _ (HS.out _ D3) ?_
      clear hK K
      intro hS2
      clear D2
      generalize V2.alloc (.cells (c4 0 0 0 0 0 (.slice none 0 0)) 44) = V3 at *
      generalize V2.heap.size = g at *
      (try simp only [Act.put, List.getElem_toArray, List.getElem_cons_succ, List.getElem_cons_zero, List.setIfInBounds_toArray, List.set_cons_zero, List.set_cons_succ])
      (refine wpAnyH_ready (rs := [16]) (by kernel_rfl) (by simp) ?_; refine AllReadyH.cons rfl (fun K hK => ?_) AllReadyH.nil)
      rw [if_pos (by rfl)]
      refine wp_store_at _ _ _ rfl _ rfl (sto4 KG c.near R.b.back (p.hop - 1) V.kind 0 a5 n5 c5) rfl ?_
      have KH := KG.row (c4 c.near R.b.back (p.hop - 1) V.kind 0 (.slice a5 n5 c5))
      have D9 := D3.row hge (c4 c.near R.b.back (p.hop - 1) V.kind 0 (.slice a5 n5 c5))
      have o9 := o6.rowOff (k := g) ho6 (c4 c.near R.b.back (p.hop - 1) V.kind 0 (.slice a5 n5 c5))
      refine hK.out _ _ (HS.out _ D9) ?_
      clear hK K
      intro hS3
      (try simp only [Act.put, List.getElem_toArray, List.getElem_cons_succ, List.getElem_cons_zero])
      (refine wpAnyH_take (i := 17) (v := ?_) rfl (by kernel_rfl) (by kernel_rfl) (by kernel_rfl) (fun _ _ _ h => h) (Or.inl ⟨by rfl, ?_⟩) (by assumption) ?_; rotate_left; focus (intro w hSw; (try dsimp only at hSw); go_simp; try with_reducible rfl); try simp only [Act.put, List.getElem_toArray, List.getElem_cons_succ, List.getElem_cons_zero, List.setIfInBounds_toArray, List.set_cons_zero, List.set_cons_succ])
      (try simp only [Act.put, List.getElem_toArray, List.getElem_cons_succ, List.getElem_cons_zero, List.setIfInBounds_toArray, List.set_cons_zero, List.set_cons_succ])
      refine wpAnyH_done (by kernel_rfl) ?_ _
      go_wp2_with fail
      go_meet
      exact ⟨g, a5, n5, c5, rfl, rfl, KH, o9, D9⟩
    · go_simp
      have KG := Blk.new V1 44 (c4 0 0 0 0 0 (.slice none 0 0))
      have D2 := D1.alloc (.cells (c4 0 0 0 0 0 (.slice none 0 0)) 44)
      have hge : W13.heap.size ≤ V1.heap.size := D1.size
      refine hK.out _ _ (HS.out _ D2) ?_
      clear hK K
      intro hS2
      clear D1
      generalize V1.alloc (.cells (c4 0 0 0 0 0 (.slice none 0 0)) 44) = V2 at *
      generalize V1.heap.size = g at *
      (try simp only [Act.put, List.getElem_toArray, List.getElem_cons_succ, List.getElem_cons_zero, List.setIfInBounds_toArray, List.set_cons_zero, List.set_cons_succ])
      (refine wpAnyH_ready (rs := [11]) (by kernel_rfl) (by simp) ?_; refine AllReadyH.cons rfl (fun K hK => ?_) AllReadyH.nil)
      go_simp
      go_at_call 33
      refine (HCL.out V2 D2).mono ?_
      rintro e V3 ⟨a5, n5, c5, rfl, o5, q⟩
      have D3 := D2.trans q
      have ho6 : ∀ j, (Value.slice a5 n5 c5).ownBlock = some j → j ≠ g := fun j hj => by have := (o5.lt j hj).1; have := KG.lt; omega
      have o6 := o5.mono D2.size
      replace KG := KG.ext q
      refine hK.out _ _ (HS.out _ D3) ?_
      clear hK K
      intro hS1
      (try simp only [Act.put, List.getElem_toArray, List.getElem_cons_succ, List.getElem_cons_zero, List.setIfInBounds_toArray, List.set_cons_zero, List.set_cons_succ])
      (refine wpAnyH_take (i := 12) (v := ?_) rfl (by kernel_rfl) (by kernel_rfl) (by kernel_rfl) (fun _ _ _ h => h) (Or.inl ⟨by rfl, ?_⟩) (by assumption) ?_; rotate_left; focus (intro w hSw; (try dsimp only at hSw); go_simp; try with_reducible rfl); try simp only [Act.put, List.getElem_toArray, List.getElem_cons_succ, List.getElem_cons_zero, List.setIfInBounds_toArray, List.set_cons_zero, List.set_cons_succ])
      (refine wpAnyH_take (i := 13) (v := ?_) rfl (by kernel_rfl) (by kernel_rfl) (by kernel_rfl) (fun _ _ _ h => h) (Or.inl ⟨by rfl, ?_⟩) (by assumption) ?_; rotate_left; focus (intro w hSw; (try dsimp only at hSw); go_simp; try with_reducible rfl); try simp only [Act.put, List.getElem_toArray, List.getElem_cons_succ, List.getElem_cons_zero, List.setIfInBounds_toArray, List.set_cons_zero, List.set_cons_succ])
      (refine wpAnyH_take (i := 14) (v := ?_) rfl (by kernel_rfl) (by kernel_rfl) (by kernel_rfl) (fun _ _ _ h => h) (Or.inl ⟨by rfl, ?_⟩) (by assumption) ?_; rotate_left; focus (intro w hSw; (try dsimp only at hSw); go_simp; try with_reducible rfl); try simp only [Act.put, List.getElem_toArray, List.getElem_cons_succ, List.getElem_cons_zero, List.setIfInBounds_toArray, List.set_cons_zero, List.set_cons_succ])
      (refine wpAnyH_ready (rs := [16]) (by kernel_rfl) (by simp) ?_; refine AllReadyH.cons rfl (fun K hK => ?_) AllReadyH.nil)
      rw [if_pos (by rfl)]
      refine wp_store_at _ _ _ rfl _ rfl (sto4 KG c.near R.b.back (p.hop - 1) V.kind 0 a5 n5 c5) rfl ?_
      have KH := KG.row (c4 c.near R.b.back (p.hop - 1) V.kind 0 (.slice a5 n5 c5))
      have D9 := D3.row hge (c4 c.near R.b.back (p.hop - 1) V.kind 0 (.slice a5 n5 c5))
      have o9 := o6.rowOff (k := g) ho6 (c4 c.near R.b.back (p.hop - 1) V.kind 0 (.slice a5 n5 c5))
      refine hK.out _ _ (HS.out _ D9) ?_
      clear hK K
      intro hS3
      (try simp only [Act.put, List.getElem_toArray, List.getElem_cons_succ, List.getElem_cons_zero])
      (refine wpAnyH_take (i := 17) (v := ?_) rfl (by kernel_rfl) (by kernel_rfl) (by kernel_rfl) (fun _ _ _ h => h) (Or.inl ⟨by rfl, ?_⟩) (by assumption) ?_; rotate_left; focus (intro w hSw; (try dsimp only at hSw); go_simp; try with_reducible rfl); try simp only [Act.put, List.getElem_toArray, List.getElem_cons_succ, List.getElem_cons_zero, List.setIfInBounds_toArray, List.set_cons_zero, List.set_cons_succ])
      (try simp only [Act.put, List.getElem_toArray, List.getElem_cons_succ, List.getElem_cons_zero, List.setIfInBounds_toArray, List.set_cons_zero, List.set_cons_succ])
      refine wpAnyH_done (by kernel_rfl) ?_ _
      go_wp2_with fail
      go_meet
      exact ⟨g, a5, n5, c5, rfl, rfl, KH, o9, D9⟩
  obtain ⟨gq, a5, n5, c5, rfl, rfl, KQ, o5, q14⟩ := hcut
  obtain ⟨_, _, _, hv5, hn5, r5, _⟩ := o5.readn
  cases hv5
  have hlb : n5 ≤ 320 := by
    have h1 := r5.len
    have h2 : (body4 (V.ports R.b.near R.b.far) c.near R.b.back D).length = Pl.segSize (V.ports R.b.near R.b.far).kind + D.length := Pl.segBytes_length HOKP.out.1
    have h3 := Pl.segSize_le (V.ports R.b.near R.b.far).kind
    have h4 := SegOk.data HOKP.out
    omega
  have hh2 : ¬ p.hop < 2 := by have := HHOP.out; omega
  have hok4 : Pl.Ok4 c.near R.b.back (p.hop - 1) V.kind 0 := ⟨HOK.out.near, HBO.out.back, ⟨by omega, by omega⟩, by rcases HSO.out.1 with hk | hk <;> omega, by omega, by omega⟩
  have HEN := Lib.hid (encode4_ok c.near R.b.back (p.hop - 1) V.kind 0 a5 n5 c5 _ _ hok4 hlb r5)
  have HGW := Lib.hid (HW13.out.ext q14)
  have HKW := Lib.hid (HK13.out.andExt q14)
  have ld := KQ.p4
  clear KQ o5 r5 q14 hok4 hlb HS HCL
  go_wp2_with ((apply load_by rfl _ _ rfl _ rfl); (focus (with_reducible assumption)))
  refine HEN.out.mono ?_
  rintro e W15 ⟨v, rfl, o15, b15⟩
  have q15 : Ext _ W15 := b15
  have gwF := HGW.out.ext q15
  have kF := HKW.out.andExt q15
  have oF := o15.mono HKW.out.size
  have HF := Lib.hid (And.intro oF (And.intro gwF kF))
  clear o15 b15 q15 gwF kF oF ld
  go_wp2_with fail
  go_returns
  rw [HX.out, HY.out, HZ.out]
  exact ⟨⟨v, rfl, HF.out.1⟩, HF.out.2.1, HF.out.2.2⟩
end Go.Proofs.YtbjogkpepfgegaaGreatDoor
