/- The law TopPlain: a segment to a four in the prefix comes to that, at that door, and its answer comes from the six. Conditions: the row's own: gangplank/proxy.sign is left open, and is never read. -/
import Derived.Test.YtbjogkpepfgegaaDoorK00
import Derived.Test.YtbjogkpepfgegaaDoorK27
import Derived.Test.YtbjogkpepfgegaaDoorK51
import Derived.Test.YtbjogkpepfgegaaDoorK23
import Derived.Test.YtbjogkpepfgegaaDoorK04
import Derived.Deep.DeepCutAuto
namespace Go.Proofs.YtbjogkpepfgegaaDoor.topPlain
open Go.ChangeShapes Go.WideShapes Go.ChangeAt Go.RowKit
theorem mut_mem {G : GG} {k : Nat} (hm : k ∈ G.T.mut) : k ∈ G.all := by simp [GG.all, TG.mut_all _ _ hm]
abbrev ask (port door : Int) : Sg := ⟨17, port, door, 0, 0, 0, 0⟩
section
variable {c : Cfg} {bs : List Pl.Back} {src : Six} {port four door : Int} {D : List Int}
theorem into_else (hok : CfgOk c bs) (he : Pl.intoErr c.pre c.len four = 0) : sixEq (Pl.into c.pre c.len four) c.vip = false := by
  have h1 := (Pl.in_into he).2
  have h2 := hok.out
  unfold Pl.inVal at h1
  simp only [Bool.and_eq_true] at h1
  cases hs : sixEq (Pl.into c.pre c.len four) c.vip with
  | false => rfl
  | true =>
    rw [sixEq_iff.1 hs] at h1
    rw [h2] at h1
    cases h1.2
theorem plain_g6 (hok : CfgOk c bs) (he : Pl.intoErr c.pre c.len four = 0) (h : SentOk (ask port door) src (Pl.into c.pre c.len four) 9 D.length) :
    g6 c bs (PS.zero c.blocks.toNat) [] 0 (sent6 (ask port door) src (Pl.into c.pre c.len four) 9 D) = ⟨0, sent4 (ask 1024 door) c.near four 8 D, (PS.zero c.blocks.toNat).take src, [oneBd ⟨17, src, port, Pl.into c.pre c.len four, door⟩ four door]⟩ := by
  have hv : ¬ sixEq (segFlow ⟨src, Pl.into c.pre c.len four, 9, (ask port door).kind⟩ (ask port door)).dst c.vip = true := by
    show ¬ sixEq (Pl.into c.pre c.len four) c.vip = true
    rw [into_else hok he]
    exact Bool.false_ne_true
  obtain ⟨_, _, _, _, _, _, _, _, hf0, hf1, _⟩ := Pl.into_facts he
  obtain ⟨o1, o2⟩ := Pl.out_into he
  refine first_in6 (c := c) (bs := bs) h (by omega) hok.blocks.1 ?_ rfl ?_ ?_ ?_ ⟨hf0, hf1⟩ h.seg.2.2.1
  · unfold gWhQ
    rw [if_neg hv]
    show (if Pl.outErr (Pl.into c.pre c.len four) c.len = 0 then (if Pl.inVal (Pl.into c.pre c.len four) c.pre c.len = true then 0 else 4) else 4) = (0 : Int)
    rw [if_pos o1, if_pos (Pl.in_into he).2]
  · unfold gToQ
    rw [if_neg hv]
  · unfold gToA
    rw [if_neg hv]
    exact o2
  · unfold gToD
    rw [if_neg hv]
    rfl
theorem plain_out (hok : CfgOk c bs) (he : Pl.intoErr c.pre c.len four = 0) (h : SentOk (ask port door) src (Pl.into c.pre c.len four) 9 D.length) : BackOk (ask 1024 door) c.near four 8 D.length := by
  obtain ⟨_, _, _, _, _, _, _, _, hf0, hf1, _⟩ := Pl.into_facts he
  exact ⟨⟨.inr rfl, by show 0 ≤ (1024 : Int) ∧ (1024 : Int) ≤ 65535; omega, h.seg.2.2⟩, hok.near, ⟨hf0, hf1⟩, by omega⟩
theorem plain_back (hok : CfgOk c bs) (he : Pl.intoErr c.pre c.len four = 0) (h : SentOk (ask port door) src (Pl.into c.pre c.len four) 9 D.length) : BackOk (ask door 1024) four c.near 9 D.length := by
  obtain ⟨_, _, _, _, _, _, _, _, hf0, hf1, _⟩ := Pl.into_facts he
  exact ⟨⟨.inr rfl, h.seg.2.2.1, by show 0 ≤ (1024 : Int) ∧ (1024 : Int) ≤ 65535; omega, h.seg.2.2.2⟩, ⟨hf0, hf1⟩, hok.near, by omega⟩
theorem plain_g4 (hok : CfgOk c bs) (he : Pl.intoErr c.pre c.len four = 0) (h : SentOk (ask port door) src (Pl.into c.pre c.len four) 9 D.length) (p : PS) :
    g4 c p [oneBd ⟨17, src, port, Pl.into c.pre c.len four, door⟩ four door] 0 four c.near 9 17 (body4 (ask door 1024) four c.near D) = ⟨0, sent6 (ask door port) (Pl.into c.pre c.len four) src 8 D, p, [oneBd ⟨17, src, port, Pl.into c.pre c.len four, door⟩ four door]⟩ :=
  first_in4 (c := c) (s := ask door 1024) (D := D) (plain_back hok he h).seg (ttl := 9) (A := four) (by omega) (f := ⟨17, src, port, Pl.into c.pre c.len four, door⟩) rfl rfl p
theorem plain_last (h : SentOk (ask port door) src (Pl.into c.pre c.len four) 9 D.length) : SentOk (ask door port) (Pl.into c.pre c.len four) src 8 D.length :=
  ⟨⟨.inr rfl, h.seg.2.2.1, h.seg.2.1, h.seg.2.2.2⟩, h.dst, h.src, by omega⟩
end
/-- What the gate makes of a segment to an address, and of the answer. -/
structure Goes (c : Cfg) (bs : List Pl.Back) (src dst : Six) (port four door : Int) (D : List Int) : Prop where
  g6 : g6 c bs (PS.zero c.blocks.toNat) [] 0 (sent6 (ask port door) src dst 9 D) = ⟨0, sent4 (ask 1024 door) c.near four 8 D, (PS.zero c.blocks.toNat).take src, [oneBd ⟨17, src, port, dst, door⟩ four door]⟩
  out : BackOk (ask 1024 door) c.near four 8 D.length
  back : BackOk (ask door 1024) four c.near 9 D.length
  g4 : ∀ p, g4 c p [oneBd ⟨17, src, port, dst, door⟩ four door] 0 four c.near 9 17 (body4 (ask door 1024) four c.near D) = ⟨0, sent6 (ask door port) dst src 8 D, p, [oneBd ⟨17, src, port, dst, door⟩ four door]⟩
  last : SentOk (ask door port) dst src 8 D.length
theorem goes {c : Cfg} {bs : List Pl.Back} {src : Six} {port four door : Int} {D : List Int} (hok : CfgOk c bs) (he : Pl.intoErr c.pre c.len four = 0) (h : SentOk (ask port door) src (Pl.into c.pre c.len four) 9 D.length) : Goes c bs src (Pl.into c.pre c.len four) port four door D :=
  ⟨plain_g6 hok he h, plain_out hok he h, plain_back hok he h, plain_g4 hok he h, plain_last h⟩
set_option maxRecDepth 100000 in
set_option maxHeartbeats 8000000 in
theorem walk (cf : Cfg) (a0 : Option Addr) (n0 m0 : Nat) (b0 : List Pl.Back) (y1 : Six) (x2 x3 x4 : Int) (a5 : Option Addr) (n5 c5 : Nat) (x5 : List Int) (w : World) (w0 : IsCfg w cf a0 n0 m0 b0) (_ : y1.Is) (_ : IsInt x2) (_ : IsInt x3) (_ : IsInt x4) (w5 : IsBytes w a5 n5 c5 x5) :
    Calls Tryd.prog 3 #[cf.v (.slice a0 n0 m0), y1.v, .int .i64 x2, .int .i64 x3, .int .i64 x4, .slice a5 n5 c5] w fun e w' => e = .returned (.bool true) ∧ Below w.heap.size w w' := by
  obtain ⟨⟨hb, hnm, _⟩, _⟩ := w0
  obtain ⟨hb5, hB5, hn5, hm5⟩ := w5
  obtain ⟨i, q, hp⟩ := Pl.PF.ex b0
  have HB := Lib.hid hb
  have HP := Lib.hid hp
  have HB5 := Lib.hid hB5
  have H5 := Lib.hid hb5
  have HM5 := Lib.hid (Nat.le_trans hn5 hm5)
  have KC := (Blk.new w 26 (cf.cells (.slice a0 n0 m0))).alloc (.cells y1.cells 23)
  have KA := Blk.at (n := w.heap.size + 1) (w.alloc (.cells (cf.cells (.slice a0 n0 m0)) 26)) 23 y1.cells (by simp)
  have E0 := ((Ext.refl w).alloc (.cells (cf.cells (.slice a0 n0 m0)) 26)).alloc (.cells y1.cells 23)
  clear hb hp hB5 hb5 hn5 hm5
  unfold Six.v
  go_enter Tryd.func3, Tryd.ntmps3
  go_upto_region 1 with (fail)
  refine at_worldE (fun W => Ext w W ∧ Blk W w.heap.size 26 (cf.cells (.slice a0 n0 m0)) ∧ Blk W (w.heap.size + 1) 23 y1.cells) ⟨E0, KC, KA⟩ ?_
  clear E0 KC KA
  rintro W1 ⟨E1, KC, KA⟩
  go_wp2_with fail
  refine (one_any W1).mono ?_
  rintro e W2 ⟨rfl, q2⟩
  have E2 := E1.trans q2
  replace KC := KC.ext q2
  replace KA := KA.ext q2
  clear E1 q2
  have ld := KC.cfg
  by_cases hc : cf.err q = 0
  case neg =>
    have HC := Lib.hid (gnew_no cf a0 n0 m0 b0 i q W2 (HB.out.ext E2) hnm HP.out hc)
    unfold errv at HC
    have HE := Lib.hid E2
    clear hc KC KA E2
    go_wp2_with ((apply load_by rfl _ _ rfl _ rfl); (focus (with_reducible assumption)))
    refine HC.out.mono ?_
    rintro e W3 ⟨rfl, q3⟩
    go_wp2_with fail
    go_returns
    exact ⟨rfl, HE.out.trans q3⟩
  have HOK := Lib.hid (CfgOk.of HP.out hc)
  have HC := Lib.hid (gnewW cf a0 n0 m0 b0 i q W2 (HB.out.ext E2) hnm HP.out hc)
  clear hc
  go_wp2_with ((apply load_by rfl _ _ rfl _ rfl); (focus (with_reducible assumption)))
  refine HC.out.mono ?_
  have HZ2 := Lib.hid KA.lt
  rintro e W3 ⟨G, rfl, gw3, q3, hG3, _⟩
  have E3 := E2.trans q3
  replace KC := KC.ext q3
  replace KA := KA.ext q3
  have HG := Lib.hid (show ∀ g ∈ G.all, w.heap.size + 1 < g from fun g hg => by
    have h1 := hG3 g hg
    have h3 := HZ2.out
    omega)
  clear HC ld E2 q3 hG3
  by_cases hlen : 200 < n5
  · have d : decide ((200 : Int) < (n5 : Int)) = true := decide_eq_true (by omega)
    have HE := Lib.hid E3
    clear hlen E3 gw3 KC KA
    go_wp2_with fail
    go_returns
    exact ⟨rfl, HE.out⟩
  have d : decide ((200 : Int) < (n5 : Int)) = false := decide_eq_false (by omega)
  clear hlen
  have lp : (Instr.loadAt 23 (.pointer (some ⟨w.heap.size, 9, none⟩))).run Tryd.prog W3 = .ok (.agg #[.int .i64 cf.pre.x0, .int .i64 cf.pre.x1, .int .i64 cf.pre.x2, .int .i64 cf.pre.x3, .int .i64 cf.pre.x4, .int .i64 cf.pre.x5, .int .i64 cf.pre.x6, .int .i64 cf.pre.x7]) W3 := KC.cfgPre
  obtain ⟨_, c17, _⟩ := KC.cfgNums
  have HI := Lib.hid (into_any cf.pre cf.len x3 W3)
  unfold Six.v at HI
  go_wp2_with ((apply load_by rfl _ _ rfl _ rfl); (focus (with_reducible assumption)))
  refine HI.out.mono ?_
  rintro e W4 ⟨rfl, q4⟩
  have HGO := Lib.hid (fun (h0 : Pl.intoErr cf.pre cf.len x3 = 0) (h : SentOk (ask x2 x4) y1 (Pl.into cf.pre cf.len x3) 9 x5.length) => goes (bs := b0) HOK.out h0 h)
  generalize Pl.into cf.pre cf.len x3 = dst at *
  generalize Pl.intoErr cf.pre cf.len x3 = QE at *
  have E4 := E3.trans q4
  replace KC := KC.ext q4
  replace KA := KA.ext q4
  have gw4 := gw3.ext q4
  have hc4 := KC.lt
  have ha4 := KA.lt
  have KX := Blk.new W4 23 zc6
  have st : (Instr.storeAt 23 (.pointer (some ⟨W4.heap.size, 0, none⟩)) (.agg dst.cells)).run Tryd.prog _ = .ok () _ := KX.store (cs := dst.cells) rfl Tryd.size6 (by simp [Six.cells, Value.oneCell'])
  have KD := KX.row dst.cells
  have E5 := (E4.alloc (.cells zc6 23)).row (k := W4.heap.size) E4.size dst.cells
  have KC5 := (KC.alloc (.cells zc6 23)).farRow (k := W4.heap.size) (by omega) dst.cells
  have KA5 := (KA.alloc (.cells zc6 23)).farRow (k := W4.heap.size) (by omega) dst.cells
  have gw5 := (gw4.ext ((Ext.refl W4).alloc (.cells zc6 23))).rowN gw4 (Nat.le_refl _) dst.cells
  have HGL := Lib.hid gw4.lt
  have hgd : w.heap.size + 1 < W4.heap.size := ha4
  clear KX E4 KC KA gw4 gw3 E3 q4 HI lp c17 d
  go_upto_region 8 with ((apply store_by rfl _ _ _ rfl _ rfl); (focus (with_reducible assumption)); (focus rfl))
  refine at_worldE (fun W => Ext w W ∧ Blk W w.heap.size 26 (cf.cells (.slice a0 n0 m0)) ∧ Blk W (w.heap.size + 1) 23 y1.cells ∧ Blk W W4.heap.size 23 dst.cells ∧ GW W G cf b0 (PS.zero cf.blocks.toNat) [] 0) ⟨E5, KC5, KA5, KD, gw5⟩ ?_
  clear E5 KC5 KA5 KD gw5 st
  rintro W5 ⟨E5, KC, KA, KD, gw5⟩
  have HND := Lib.hid (show W4.heap.size ∉ G.T.mut from fun hm => by have := HGL.out _ (mut_mem hm); omega)
  have HNC := Lib.hid (show w.heap.size ∉ G.T.mut from fun hm => by have := HG.out _ (mut_mem hm); omega)
  have HNA := Lib.hid (show w.heap.size + 1 ∉ G.T.mut from fun hm => by have := HG.out _ (mut_mem hm); omega)
  have HGW := Lib.hid (show ∀ g ∈ G.all, w.heap.size ≤ g from fun g hg => by have := HG.out g hg; omega)
  generalize W4.heap.size = gd at *
  have la : (Instr.loadAt 23 (.pointer (some ⟨w.heap.size + 1, 0, none⟩))).run Tryd.prog W5 = .ok (.agg #[.int .i64 y1.x0, .int .i64 y1.x1, .int .i64 y1.x2, .int .i64 y1.x3, .int .i64 y1.x4, .int .i64 y1.x5, .int .i64 y1.x6, .int .i64 y1.x7]) W5 := KA.six0
  have lb : (Instr.loadAt 23 (.pointer (some ⟨gd, 0, none⟩))).run Tryd.prog W5 = .ok (.agg #[.int .i64 dst.x0, .int .i64 dst.x1, .int .i64 dst.x2, .int .i64 dst.x3, .int .i64 dst.x4, .int .i64 dst.x5, .int .i64 dst.x6, .int .i64 dst.x7]) W5 := KD.six0
  have HS := Lib.hid (sent_any (ask x2 x4) y1 dst 9 a5 n5 c5 x5 W5 (H5.out.ext E5) HB5.out HM5.out)
  unfold Six.v at HS
  go_wp2_with ((apply load_by rfl _ _ rfl _ rfl); (focus (with_reducible assumption)))
  refine HS.out.mono ?_
  rintro e W6 ⟨⟨v6, rfl, o6⟩, q6⟩
  have E6 := E5.trans q6
  replace KC := KC.ext q6
  replace KA := KA.ext q6
  replace KD := KD.ext q6
  replace gw5 := gw5.ext q6
  obtain ⟨a6, n6, c6, rfl, hn6, r6, _⟩ := o6.readn
  have hl6 := r6.len
  clear la lb HS E5 q6 o6
  by_cases hqe : QE = 0
  case neg =>
    rw [erv_ne hqe]
    unfold errv
    have HE := Lib.hid E6
    clear hqe E6 KC KA KD gw5 r6
    go_wp2_with fail
    go_returns
    exact ⟨rfl, HE.out⟩
  subst hqe
  rw [erv_zero]
  cases hq : sentQ (ask x2 x4) y1 dst 9 x5
  case false =>
    have hx : sentX (ask x2 x4) y1 dst 9 x5 = [] := by unfold sentX; rw [hq, if_neg Bool.false_ne_true]
    rw [hx] at hl6
    obtain rfl : n6 = 0 := hl6.symm
    have HE := Lib.hid E6
    clear hq hx hl6 E6 KC KA KD gw5 r6
    go_wp2_with fail
    go_returns
    exact ⟨rfl, HE.out⟩
  have hso := sentQ_ok hq
  have hx : sentX (ask x2 x4) y1 dst 9 x5 = sent6 (ask x2 x4) y1 dst 9 x5 := by unfold sentX; rw [hq, if_pos rfl]
  rw [hx] at r6 hl6
  have hne : ((n6 : Int) == 0) = false := by
    have h1 := hso.is6.1.1
    rw [hl6] at h1
    simp
    omega
  have HSO := Lib.hid hso
  have HGG := Lib.hid (HGO.out rfl hso)
  have hh : gHead cf (segFlow (Pl.dec6 (sent6 (ask x2 x4) y1 dst 9 x5)) (g6sg (sent6 (ask x2 x4) y1 dst 9 x5))) = false := by
    rw [sent6_dec, hso.sg]
    unfold gHead
    have : decide ((segFlow ⟨y1, dst, 9, (ask x2 x4).kind⟩ (ask x2 x4)).kind = 6) = false := rfl
    rw [this, Bool.and_false, Bool.and_false]
  have HI := Lib.hid (gin6_any G cf b0 _ _ 0 a6 n6 c6 _ W6 gw5 HOK.out r6 (hso.isB HB5.out) hn6 hh)
  rw [HGG.out.g6] at HI
  clear hq hx hso hh hl6 r6 gw5
  go_wp2_with fail
  refine HI.out.mono ?_
  rintro e W7 ⟨⟨v7, rfl, o7⟩, gw7, k7⟩
  rw [erv_zero]
  have E7 := E6.kpAll HGW.out k7
  replace KC := KC.kp k7 HNC.out
  replace KA := KA.kp k7 HNA.out
  replace KD := KD.kp k7 HND.out
  obtain ⟨a7, n7, c7, rfl, hn7, r7, _⟩ := o7.readn
  have HO := Lib.hid (opened_ok (ask 1024 x4) cf.near x3 8 x5 a7 n7 c7 W7 r7 HB5.out HGG.out.out hn7)
  clear HI E6 k7 o7 r7 hne
  go_wp2_with fail
  refine HO.out.mono ?_
  rintro e W8 ⟨z1, z2, z3, a8, n8, c8, rfl, o8, q8⟩
  have E8 := E7.trans q8
  have gw8 := gw7.ext q8
  replace KC := KC.ext q8
  replace KA := KA.ext q8
  replace KD := KD.ext q8
  have hc8 := KC.lt
  have ha8 := KA.lt
  have hd8 := KD.lt
  have hs7 := E7.size
  have KX := (Blk.new W8 42 (c4 0 0 0 0 0 (.slice none 0 0))).alloc (.cells #[.int .i64 0, .int .i64 0, .int .i64 0, .int .i64 0, .int .i64 0, .int .i64 0, .int .i64 0, .slice none 0 0] 38)
  have KY := Blk.at (n := W8.heap.size + 1) (W8.alloc (.cells (c4 0 0 0 0 0 (.slice none 0 0)) 42)) 38 #[.int .i64 0, .int .i64 0, .int .i64 0, .int .i64 0, .int .i64 0, .int .i64 0, .int .i64 0, .slice none 0 0] (by simp)
  have st := sto4 KX cf.near x3 8 17 0 z1 z2 z3
  have KX2 := KX.row (c4 cf.near x3 8 17 0 (.slice z1 z2 z3))
  have KY2 := KY.farRow (k := W8.heap.size) (by omega) (c4 cf.near x3 8 17 0 (.slice z1 z2 z3))
  have st2 := sto KY2 (ask 1024 x4) a8 n8 c8
  have KY3 := KY2.row ((ask 1024 x4).cells (.slice a8 n8 c8))
  have KX3 := KX2.farRow (k := W8.heap.size + 1) (by omega) ((ask 1024 x4).cells (.slice a8 n8 c8))
  have up : ∀ {g : Nat} {t : TypeId} {cs : Array Value}, g < W8.heap.size → Blk W8 g t cs → Blk ((((W8.alloc (.cells (c4 0 0 0 0 0 (.slice none 0 0)) 42)).alloc (.cells #[.int .i64 0, .int .i64 0, .int .i64 0, .int .i64 0, .int .i64 0, .int .i64 0, .int .i64 0, .slice none 0 0] 38)).setRow W8.heap.size (c4 cf.near x3 8 17 0 (.slice z1 z2 z3))).setRow (W8.heap.size + 1) ((ask 1024 x4).cells (.slice a8 n8 c8))) g t cs := fun {g t cs} hg K =>
    (((K.alloc _).alloc _).farRow (k := W8.heap.size) (by omega) _).farRow (k := W8.heap.size + 1) (by omega) _
  have KC9 := up hc8 KC
  have KA9 := up ha8 KA
  have KD9 := up hd8 KD
  have q9 := ((((Ext.refl W8).alloc (.cells (c4 0 0 0 0 0 (.slice none 0 0)) 42)).alloc (.cells #[.int .i64 0, .int .i64 0, .int .i64 0, .int .i64 0, .int .i64 0, .int .i64 0, .int .i64 0, .slice none 0 0] 38)).row (k := W8.heap.size) (Nat.le_refl _) (c4 cf.near x3 8 17 0 (.slice z1 z2 z3))).row (k := W8.heap.size + 1) (Nat.le_succ _) ((ask 1024 x4).cells (.slice a8 n8 c8))
  have E9 := E8.trans q9
  have gw9 := gw8.ext q9
  obtain ⟨_, _, _, hv8, _, r8, _⟩ := o8.readn
  cases hv8
  have r9 := r8.ext q9
  clear KX KY KX2 KY2 KC KA KD up q9 E8 gw8 q8 o8 r8 HO gw7 E7
  go_upto_region 15 with (first | ((apply store_by rfl _ _ _ rfl _ rfl); (focus (with_reducible assumption)); (focus rfl)) | ((apply store_by rfl _ _ _ rfl _ rfl); (focus (exact st2)); (focus rfl)))
  refine at_worldE (fun W => Ext w W ∧ Blk W w.heap.size 26 (cf.cells (.slice a0 n0 m0)) ∧ Blk W (w.heap.size + 1) 23 y1.cells ∧ Blk W gd 23 dst.cells ∧ GW W G cf b0 ((PS.zero cf.blocks.toNat).take y1) [oneBd ⟨17, y1, x2, dst, x4⟩ x3 x4] 0 ∧ Blk W W8.heap.size 42 (c4 cf.near x3 8 17 0 (.slice z1 z2 z3)) ∧ Blk W (W8.heap.size + 1) 38 ((ask 1024 x4).cells (.slice a8 n8 c8)) ∧ Ints .u8 W a8 n8 x5) ⟨E9, KC9, KA9, KD9, gw9, KX3, KY3, r9⟩ ?_
  clear E9 KC9 KA9 KD9 gw9 KX3 KY3 r9 st st2
  rintro W9 ⟨E9, KC, KA, KD, gw9, KX, KY, r9⟩
  generalize W8.heap.size = gx at *
  have f1 : W9.cell? ⟨gx, 1, none⟩ = some (.int .i64 x3) := KX.cells 1
  have f2 : W9.cell? ⟨gx + 1, 2, none⟩ = some (.int .i64 x4) := KY.cells 2
  have f3 : W9.cell? ⟨gx + 1, 1, none⟩ = some (.int .i64 1024) := KY.cells 1
  have f7 : W9.cell? ⟨gx + 1, 7, none⟩ = some (.slice a8 n8 c8) := KY.cells 7
  have f18 : W9.cell? ⟨w.heap.size, 18, none⟩ = some (.int .i64 cf.near) := KC.cells 18
  have k1 := conv_str (c := c8) r9
  have k2 := conv_str (c := c5) (H5.out.ext E9)
  have HBK := Lib.hid (back_ok (ask x4 1024) x3 cf.near 9 a5 n5 c5 x5 W9 (H5.out.ext E9) HB5.out (by have := HGG.out.back; rw [H5.out.len] at this; exact this))
  generalize hzz : strOfNums x5 = z at k1 k2
  have HZZ := Lib.hid hzz
  clear hzz r9 KX KY
  go_wp2_with fail
  refine HBK.out.mono ?_
  rintro e W10 ⟨⟨v10, rfl, o10⟩, q10⟩
  have E10 := E9.trans q10
  replace KA := KA.ext q10
  replace KD := KD.ext q10
  have gw10 := gw9.ext q10
  obtain ⟨a10, n10, c10, rfl, hn10, r10, _⟩ := o10.readn
  have HI := Lib.hid (gin4_pk G cf b0 _ _ 0 a10 n10 c10 x3 cf.near 9 17 0 (body4 (ask x4 1024) x3 cf.near x5) W10 gw10 r10 HGG.out.back.ok4 (HGG.out.back.body_isB HB5.out) HGG.out.back.small hn10)
  rw [HGG.out.g4] at HI
  clear HBK E9 KC gw9 q10 o10 r10 gw10 f1 f2 f3 f7 f18 k1 k2
  go_wp2_with fail
  refine HI.out.mono ?_
  rintro e W11 ⟨⟨v11, rfl, o11⟩, _, k11⟩
  rw [erv_zero]
  have E11 := E10.kpAll HGW.out k11
  replace KA := KA.kp k11 HNA.out
  replace KD := KD.kp k11 HND.out
  obtain ⟨a11, n11, c11, rfl, hn11, r11, _⟩ := o11.readn
  have HO := Lib.hid (opened6_ok (ask x4 x2) dst y1 8 x5 a11 n11 c11 W11 r11 HB5.out HGG.out.last hn11)
  clear HI E10 k11 o11 r11
  go_wp2_with fail
  refine HO.out.mono ?_
  rintro e W12 ⟨z4, z5, z6, a12, n12, c12, rfl, o12, q12⟩
  have E12 := E11.trans q12
  replace KA := KA.ext q12
  replace KD := KD.ext q12
  have ha12 := KA.lt
  have hd12 := KD.lt
  have hs11 := E11.size
  have KX := (Blk.new W12 47 #[.int .i64 0, .int .i64 0, .int .i64 0, .int .i64 0, .int .i64 0, .int .i64 0, .int .i64 0, .int .i64 0, .int .i64 0, .int .i64 0, .int .i64 0, .int .i64 0, .int .i64 0, .int .i64 0, .int .i64 0, .int .i64 0, .int .i64 0, .int .i64 0, .slice none 0 0]).alloc (.cells #[.int .i64 0, .int .i64 0, .int .i64 0, .int .i64 0, .int .i64 0, .int .i64 0, .int .i64 0, .slice none 0 0] 38)
  have KY := Blk.at (n := W12.heap.size + 1) (W12.alloc (.cells #[.int .i64 0, .int .i64 0, .int .i64 0, .int .i64 0, .int .i64 0, .int .i64 0, .int .i64 0, .int .i64 0, .int .i64 0, .int .i64 0, .int .i64 0, .int .i64 0, .int .i64 0, .int .i64 0, .int .i64 0, .int .i64 0, .int .i64 0, .int .i64 0, .slice none 0 0] 47)) 38 #[.int .i64 0, .int .i64 0, .int .i64 0, .int .i64 0, .int .i64 0, .int .i64 0, .int .i64 0, .slice none 0 0] (by simp)
  have st := sto6l KX ⟨dst, y1, 8, 17⟩ z4 z5 z6
  have KX2 := KX.row ((⟨dst, y1, 8, 17⟩ : P6).cells (.slice z4 z5 z6))
  have KY2 := KY.farRow (k := W12.heap.size) (by omega) ((⟨dst, y1, 8, 17⟩ : P6).cells (.slice z4 z5 z6))
  have st2 := sto KY2 (ask x4 x2) a12 n12 c12
  have KY3 := KY2.row ((ask x4 x2).cells (.slice a12 n12 c12))
  have KX3 := KX2.farRow (k := W12.heap.size + 1) (by omega) ((ask x4 x2).cells (.slice a12 n12 c12))
  have KA13 := (((KA.alloc (.cells #[.int .i64 0, .int .i64 0, .int .i64 0, .int .i64 0, .int .i64 0, .int .i64 0, .int .i64 0, .int .i64 0, .int .i64 0, .int .i64 0, .int .i64 0, .int .i64 0, .int .i64 0, .int .i64 0, .int .i64 0, .int .i64 0, .int .i64 0, .int .i64 0, .slice none 0 0] 47)).alloc (.cells #[.int .i64 0, .int .i64 0, .int .i64 0, .int .i64 0, .int .i64 0, .int .i64 0, .int .i64 0, .slice none 0 0] 38)).farRow (k := W12.heap.size) (by omega) ((⟨dst, y1, 8, 17⟩ : P6).cells (.slice z4 z5 z6))).farRow (k := W12.heap.size + 1) (by omega) ((ask x4 x2).cells (.slice a12 n12 c12))
  have KD13 := (((KD.alloc (.cells #[.int .i64 0, .int .i64 0, .int .i64 0, .int .i64 0, .int .i64 0, .int .i64 0, .int .i64 0, .int .i64 0, .int .i64 0, .int .i64 0, .int .i64 0, .int .i64 0, .int .i64 0, .int .i64 0, .int .i64 0, .int .i64 0, .int .i64 0, .int .i64 0, .slice none 0 0] 47)).alloc (.cells #[.int .i64 0, .int .i64 0, .int .i64 0, .int .i64 0, .int .i64 0, .int .i64 0, .int .i64 0, .slice none 0 0] 38)).farRow (k := W12.heap.size) (by omega) ((⟨dst, y1, 8, 17⟩ : P6).cells (.slice z4 z5 z6))).farRow (k := W12.heap.size + 1) (by omega) ((ask x4 x2).cells (.slice a12 n12 c12))
  have q13 := ((((Ext.refl W12).alloc (.cells #[.int .i64 0, .int .i64 0, .int .i64 0, .int .i64 0, .int .i64 0, .int .i64 0, .int .i64 0, .int .i64 0, .int .i64 0, .int .i64 0, .int .i64 0, .int .i64 0, .int .i64 0, .int .i64 0, .int .i64 0, .int .i64 0, .int .i64 0, .int .i64 0, .slice none 0 0] 47)).alloc (.cells #[.int .i64 0, .int .i64 0, .int .i64 0, .int .i64 0, .int .i64 0, .int .i64 0, .int .i64 0, .slice none 0 0] 38)).row (k := W12.heap.size) (Nat.le_refl _) ((⟨dst, y1, 8, 17⟩ : P6).cells (.slice z4 z5 z6))).row (k := W12.heap.size + 1) (Nat.le_succ _) ((ask x4 x2).cells (.slice a12 n12 c12))
  have E13 := E12.trans q13
  obtain ⟨_, _, _, hv12, _, r12, _⟩ := o12.readn
  cases hv12
  have r13 := r12.ext q13
  clear KX KY KX2 KY2 KA KD q13 E12 q12 o12 r12 HO E11
  go_upto_region 21 with (first | ((apply store_by rfl _ _ _ rfl _ rfl); (focus (with_reducible assumption)); (focus rfl)) | ((apply store_by rfl _ _ _ rfl _ rfl); (focus (exact st2)); (focus rfl)))
  refine at_worldE (fun W => Ext w W ∧ Blk W (w.heap.size + 1) 23 y1.cells ∧ Blk W gd 23 dst.cells ∧ Blk W W12.heap.size 47 ((⟨dst, y1, 8, 17⟩ : P6).cells (.slice z4 z5 z6)) ∧ Blk W (W12.heap.size + 1) 38 ((ask x4 x2).cells (.slice a12 n12 c12)) ∧ Ints .u8 W a12 n12 x5) ⟨E13, KA13, KD13, KX3, KY3, r13⟩ ?_
  clear E13 KA13 KD13 KX3 KY3 r13 st st2
  rintro W13 ⟨E13, KA, KD, KX, KY, r13⟩
  generalize W12.heap.size = gy at *
  have l1 : (Instr.loadAt 23 (.pointer (some ⟨gy, 0, none⟩))).run Tryd.prog W13 = .ok (.agg dst.cells) W13 := KX.p6src
  have l2 : (Instr.loadAt 23 (.pointer (some ⟨gy, 8, none⟩))).run Tryd.prog W13 = .ok (.agg y1.cells) W13 := KX.p6dst
  have l3 : (Instr.loadAt 23 (.pointer (some ⟨gd, 0, none⟩))).run Tryd.prog W13 = .ok (.agg dst.cells) W13 := KD.six0
  have l4 : (Instr.loadAt 23 (.pointer (some ⟨w.heap.size + 1, 0, none⟩))).run Tryd.prog W13 = .ok (.agg y1.cells) W13 := KA.six0
  have e1 := fun W => six_same dst W
  have e2 := fun W => six_same y1 W
  have f2 : W13.cell? ⟨gy + 1, 2, none⟩ = some (.int .i64 x2) := KY.cells 2
  have f7 : W13.cell? ⟨gy + 1, 7, none⟩ = some (.slice a12 n12 c12) := KY.cells 7
  have k1 := conv_str (c := c12) r13
  have k2 := conv_str (c := c5) (H5.out.ext E13)
  generalize strOfNums x5 = z' at k1 k2
  have HE := Lib.hid E13
  clear E13 KA KD KX KY r13
  go_wp2_with ((apply load_by rfl _ _ rfl _ rfl); (focus (with_reducible assumption)))
  go_returns
  exact ⟨rfl, HE.out⟩
set_option maxRecDepth 100000 in
theorem lifted (os : Os) (started : os.Started) (H : Type) (enc : TypeId × Value → H) :
    ReturnsInHanded {} Tryd.checked os 3 .any (Rows.topPlainSpec.pre6 enc Tryd.prog Tryd.f3 Rows.topPlainRow.domain false) (Rows.topPlainSpec.post enc Tryd.prog Tryd.f3 false true false false) := by
  refine returnsInHanded_of_change (C := Tryd.checked) own started (by kernel_rfl) Tryd.func3
    (ChangeSpec.witness6 (enc := enc) (C := Tryd.checked) false ⟨#[], #[.agg #[.int .i64 0, .int .i64 0, .int .i64 0, .int .i64 0, .int .i64 0, .int .i64 0, .int .i64 0, .int .i64 0, .int .i64 0, .int .i64 0, .int .i64 0, .int .i64 0, .int .i64 0, .int .i64 0, .int .i64 0, .int .i64 0, .int .i64 0, .int .i64 0, .int .i64 0, .int .i64 0, .int .i64 0, .bool false, .slice none 0 0], .agg #[.int .i64 0, .int .i64 0, .int .i64 0, .int .i64 0, .int .i64 0, .int .i64 0, .int .i64 0, .int .i64 0], .int .i64 0, .int .i64 0, .int .i64 0, .slice none 0 0], []⟩ 8 (by kernel_rfl) (by kernel_rfl) (by kernel_rfl) (by kernel_rfl)) ?_
  intro W base args ds gs before hval0 hW hcnd _
  have hval : ∀ (j : Nat) t v, Tryd.f3.params[j]? = some t → args[j]? = some v → Value.okWide Tryd.prog W .any base t v := hval0
  have hW' := hW
  obtain ⟨p, q, hA0, hV, rfl, hfz, hnd⟩ := hW
  have hA : DataW.TrodAll enc Tryd.prog W 0 (fun _ => true) true Tryd.f3.params.toList args.toList ds p := hA0
  rw [Tryd.params3] at hA hval
  obtain ⟨v0, vs0, d0, ds0, p0, q0, hargs, rfl, rfl, h0, r0⟩ := trodAll_cons hA
  obtain ⟨v1, vs1, d1, ds1, p1, q1, rfl, rfl, rfl, h1, r1⟩ := trodAll_cons r0
  obtain ⟨v2, vs2, d2, ds2, p2, q2, rfl, rfl, rfl, h2, r2⟩ := trodAll_cons r1
  obtain ⟨v3, vs3, d3, ds3, p3, q3, rfl, rfl, rfl, h3, r3⟩ := trodAll_cons r2
  obtain ⟨v4, vs4, d4, ds4, p4, q4, rfl, rfl, rfl, h4, r4⟩ := trodAll_cons r3
  obtain ⟨v5, vs5, d5, ds5, p5, q5, rfl, rfl, rfl, h5, r5⟩ := trodAll_cons r4
  obtain ⟨rfl, rfl, rfl⟩ := trodAll_nil r5
  obtain rfl : args = #[v0, v1, v2, v3, v4, v5] := by cases args; simp_all
  obtain ⟨rfl, rfl⟩ := trodVars_none hV
  have lt0 : ∀ x ∈ p0, x.block < W.heap.size := by obtain ⟨m, hm⟩ := h0; exact DataW.trod_lt m _ _ _ hm
  have k0 := h0
  obtain ⟨cf0, a0, n0, m0, b0, rfl, w0⟩ := open_cfg (hval 0 26 v0 rfl rfl) h0
  have lt1 : ∀ x ∈ p1, x.block < W.heap.size := by obtain ⟨m, hm⟩ := h1; exact DataW.trod_lt m _ _ _ hm
  have k1 := h1
  obtain ⟨s1, rfl, w1⟩ := open_six (hval 1 23 v1 rfl rfl) h1
  have lt2 : ∀ x ∈ p2, x.block < W.heap.size := by obtain ⟨m, hm⟩ := h2; exact DataW.trod_lt m _ _ _ hm
  have k2 := h2
  obtain ⟨x2, rfl, _, _, w2'⟩ := open_int Tryd.underlying3 (hval 2 3 v2 rfl rfl) h2
  have w2 : IsInt x2 := wf_i64 w2'
  have lt3 : ∀ x ∈ p3, x.block < W.heap.size := by obtain ⟨m, hm⟩ := h3; exact DataW.trod_lt m _ _ _ hm
  have k3 := h3
  obtain ⟨x3, rfl, _, _, w3'⟩ := open_int Tryd.underlying3 (hval 3 3 v3 rfl rfl) h3
  have w3 : IsInt x3 := wf_i64 w3'
  have lt4 : ∀ x ∈ p4, x.block < W.heap.size := by obtain ⟨m, hm⟩ := h4; exact DataW.trod_lt m _ _ _ hm
  have k4 := h4
  obtain ⟨x4, rfl, _, _, w4'⟩ := open_int Tryd.underlying3 (hval 4 3 v4 rfl rfl) h4
  have w4 : IsInt x4 := wf_i64 w4'
  have lt5 : ∀ x ∈ p5, x.block < W.heap.size := by obtain ⟨m, hm⟩ := h5; exact DataW.trod_lt m _ _ _ hm
  have k5 := h5
  obtain ⟨a5, n5, c5, rfl⟩ := okWide_slice Tryd.underlying27 (hval 5 27 v5 rfl rfl)
  obtain ⟨x5, w5⟩ := open_bytes h5
  clear hA0 hval0
  refine (walk cf0 a0 n0 m0 b0 s1 x2 x3 x4 a5 n5 c5 x5 W w0 w1 w2 w3 w4 w5).mono fun e W' ⟨he, bel⟩ => ?_
  subst he
  exact ⟨_, rfl, _, _, _, [], _, [], hW', trodAll_mk1 (shut_bool Tryd.underlying4 _), (trodAll_cons_mk (Below.trod laidOut (by kernel_rfl) (of_decide_eq_true (by kernel_rfl)) k0 bel lt0) (trodAll_cons_mk (Below.trod laidOut (by kernel_rfl) (of_decide_eq_true (by kernel_rfl)) k1 bel lt1) (trodAll_cons_mk (Below.trod laidOut (by kernel_rfl) (of_decide_eq_true (by kernel_rfl)) k2 bel lt2) (trodAll_cons_mk (Below.trod laidOut (by kernel_rfl) (of_decide_eq_true (by kernel_rfl)) k3 bel lt3) (trodAll_cons_mk (Below.trod laidOut (by kernel_rfl) (of_decide_eq_true (by kernel_rfl)) k4 bel lt4) (trodAll_cons_mk (Below.trod laidOut (by kernel_rfl) (of_decide_eq_true (by kernel_rfl)) k5 bel lt5) trodAll_mk0)))))), rfl, bel.frame _, fun h => by cases h⟩

theorem over : Rows.topPlainRow.holds Tryd.pinned (OpenSpec.ofChange Rows.topPlainSpec) :=
  OpenClaim.holds_of_wide 3 Tryd.f3 rfl rfl rfl rfl rfl rfl rfl ⟨rfl, rfl, rfl, rfl, rfl⟩ rfl rfl rfl rfl rfl (by kernel_rfl) Tryd.func3 (by kernel_rfl)
    (of_decide_eq_true (by kernel_rfl)) (by unfold Func.isWrapper; first | (rw [if_pos (by decide +kernel)]; kernel_rfl) | (rw [if_neg (by decide +kernel)]; exact ⟨rfl, rfl⟩))
    (fun os started H enc _ => lifted os started H enc)

/-- THE STATEMENT. -/
theorem proved : Rows.TopPlainSaid := over
#print axioms proved
end Go.Proofs.YtbjogkpepfgegaaDoor.topPlain
