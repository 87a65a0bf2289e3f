/- The law TopFull: clients come one by one, till all ports are given away: each has its own; then nobody else; all are free again when their time is over. Conditions: the row's own: gangplank/proxy.sign is left open, and is never read; errors.errorType holds its handle (tied). -/
import Derived.Test.YtbjogkpepfgegaaGreatDoorTopFullY
import Derived.Test.YtbjogkpepfgegaaGreatDoorK16
import Derived.Test.YtbjogkpepfgegaaGreatDoorTie
import Derived.Test.YtbjogkpepfgegaaGreatDoorCards
import Derived.SevenTiedAt
import Derived.Deep.DeepCutAuto
namespace Go.Proofs.YtbjogkpepfgegaaGreatDoor.topFull
open Go.ChangeShapes Go.WideShapes Go.ChangeAt Go.RowKit
/-- How it stands while they come. -/
structure FU (w wr : World) (gc : Nat) (G : GG) (x : Int) (s : PS) (B : List Bd) (now : Int) : Prop where
  ext : Ext w wr
  gw : GW wr G (fuC x) plB s B now
  cfg : ∃ v, Blk wr gc 26 ((fuC x).cells v)
  low : w.heap.size ≤ gc
  far : ∀ g ∈ G.all, gc < g
section
variable {w W V : World} {gc : Nat} {G : GG} {x : Int} {s s' : PS} {B B' : List Bd} {now m : Int}
theorem FU.grow (h : FU w W gc G x s B now) (E : Ext W V) : FU w V gc G x s B now :=
  ⟨h.ext.trans E, h.gw.ext E, h.cfg.elim fun v k => ⟨v, k.ext E⟩, h.low, h.far⟩
theorem FU.turn (h : FU w W gc G x s B now) (g : GW V G (fuC x) plB s' B' m) {S : List Nat} (hS : ∀ g ∈ S, g ∈ G.all) (k : Kp S W V) : FU w V gc G x s' B' m := by
  have hlow := h.low
  refine ⟨Below.trans h.ext (k.below h.ext.size fun g hg => ?_), g, h.cfg.elim fun v kk => ⟨v, kk.kp k fun hm => ?_⟩, h.low, h.far⟩
  · have := h.far g (hS g hg)
    omega
  · have := h.far gc (hS gc hm)
    omega
end
theorem all_mut {G : GG} : ∀ g ∈ G.T.mut, g ∈ G.all := fun g hg => by simp [GG.all, TG.mut_all _ _ hg]
theorem all_tick {G : GG} : ∀ g ∈ G.g :: G.gS :: G.T.mut, g ∈ G.all := fun g hg => by
  simp only [List.mem_cons] at hg
  rcases hg with rfl | rfl | hg
  · simp [GG.all]
  · simp [GG.all]
  · exact all_mut g hg
set_option maxRecDepth 100000 in
set_option maxHeartbeats 8000000 in
theorem walk (x0 x1 x2 : Int) (w : World) (hg : Handle w) (i0 : IsInt x0) (i1 : IsInt x1) (i2 : IsInt x2) :
    Calls Tryz.prog 4 #[.int .i64 x0, .int .i64 x1, .int .i64 x2] w fun e w' => e = .returned (.bool true) ∧ Below w.heap.size w w' := by
  have HG := Lib.hid hg
  have HI := Lib.hid (And.intro i0 (And.intro i1 i2))
  clear hg i0 i1 i2
  go_enter Tryz.func4, Tryz.ntmps4
  go_wp2_with fail
  refine (one_any w).mono ?_
  rintro e W1 ⟨rfl, E1⟩
  go_wp2_with fail
  refine (plain_any W1).mono ?_
  rintro e W2 ⟨gb, rfl, B2, q2⟩
  have E2 := E1.trans q2
  have KX := Blk.new W2 26 #[.int .i64 0, .int .i64 0, .int .i64 0, .int .i64 0, .int .i64 0, .int .i64 0, .int .i64 0, .int .i64 0, .int .i64 0, .int .i64 0, .int .i64 0, .int .i64 0, .int .i64 0, .int .i64 0, .int .i64 0, .int .i64 0, .int .i64 0, .int .i64 0, .int .i64 0, .int .i64 0, .int .i64 0, .bool false, .slice none 0 0]
  have q3 := (Ext.refl W2).alloc (.cells #[.int .i64 0, .int .i64 0, .int .i64 0, .int .i64 0, .int .i64 0, .int .i64 0, .int .i64 0, .int .i64 0, .int .i64 0, .int .i64 0, .int .i64 0, .int .i64 0, .int .i64 0, .int .i64 0, .int .i64 0, .int .i64 0, .int .i64 0, .int .i64 0, .int .i64 0, .int .i64 0, .int .i64 0, .bool false, .slice none 0 0] 26)
  have st : (Instr.storeAt 26 (.pointer (some ⟨W2.heap.size, 0, none⟩)) (plC.v (.slice (some ⟨gb, 0, none⟩) 1 1))).run Tryz.prog (W2.alloc (.cells #[.int .i64 0, .int .i64 0, .int .i64 0, .int .i64 0, .int .i64 0, .int .i64 0, .int .i64 0, .int .i64 0, .int .i64 0, .int .i64 0, .int .i64 0, .int .i64 0, .int .i64 0, .int .i64 0, .int .i64 0, .int .i64 0, .int .i64 0, .int .i64 0, .int .i64 0, .int .i64 0, .int .i64 0, .bool false, .slice none 0 0] 26)) = .ok () ((W2.alloc (.cells #[.int .i64 0, .int .i64 0, .int .i64 0, .int .i64 0, .int .i64 0, .int .i64 0, .int .i64 0, .int .i64 0, .int .i64 0, .int .i64 0, .int .i64 0, .int .i64 0, .int .i64 0, .int .i64 0, .int .i64 0, .int .i64 0, .int .i64 0, .int .i64 0, .int .i64 0, .int .i64 0, .int .i64 0, .bool false, .slice none 0 0] 26)).setRow W2.heap.size (plC.cells (.slice (some ⟨gb, 0, none⟩) 1 1))) := KX.store (cs := plC.cells (.slice (some ⟨gb, 0, none⟩) 1 1)) rfl Tryz.sizeCfg (by simp [Cfg.cells, Value.oneCell'])
  have K3 := KX.row (plC.cells (.slice (some ⟨gb, 0, none⟩) 1 1))
  have q4 := q3.row (k := W2.heap.size) (Nat.le_refl _) (plC.cells (.slice (some ⟨gb, 0, none⟩) 1 1))
  go_upto_region 3 with (first | ((apply store_by rfl _ _ _ rfl _ rfl); (focus (with_reducible assumption)); (focus rfl)))
  have hge : w.heap.size ≤ W2.heap.size := E2.size
  have HB := Lib.hid (fun V (E : Ext W2 V) => B2.ext E)
  refine at_worldE (fun W => Ext W2 W ∧ Blk W W2.heap.size 26 (plC.cells (.slice (some ⟨gb, 0, none⟩) 1 1))) ⟨q4, K3⟩ ?_
  clear KX q3 K3 q4 st q2 E1 B2
  rintro W3 ⟨q3, K3⟩
  have c20 := K3.cells 20
  have f20 := K3.free 20
  have K4 : Blk (W3.setCell ⟨W2.heap.size, 20, none⟩ (.int .i64 x0)) W2.heap.size 26 ((fuC x0).cells (.slice (some ⟨gb, 0, none⟩) 1 1)) := K3.put 20 (.int .i64 x0)
  have q4 : Ext W2 (W3.setCell ⟨W2.heap.size, 20, none⟩ (.int .i64 x0)) := q3.set (p := ⟨W2.heap.size, 20, none⟩) (Nat.le_refl _) _
  clear K3 q3
  go_upto_region 4 with (fail)
  refine at_worldE (fun W => Ext W2 W ∧ Blk W W2.heap.size 26 ((fuC x0).cells (.slice (some ⟨gb, 0, none⟩) 1 1))) ⟨q4, K4⟩ ?_
  clear K4 q4 c20 f20
  rintro W4 ⟨q4, K4⟩
  have ld := K4.cfg
  have E4 := E2.trans q4
  have hgc4 : W2.heap.size < W4.heap.size := K4.lt
  have B4 := HB.out W4 q4
  generalize W2.heap.size = gc at *
  clear HB q4 E2
  by_cases hx : 1 ≤ x0 ∧ x0 ≤ 16
  case neg =>
    have HN := Lib.hid (gnew_no (fuC x0) (some ⟨gb, 0, none⟩) 1 1 plB 0 0 W4 B4 (Nat.le_refl _) plPF (by rw [fu_err_no hx]; decide))
    rw [fu_err_no hx] at HN
    unfold errv at HN
    have HE := Lib.hid E4
    have hd : decide (x0 < 1) = true ∨ (decide (x0 < 1) = false ∧ decide (16 < x0) = true) := by
      by_cases h1 : x0 < 1
      · exact .inl (decide_eq_true h1)
      · exact .inr ⟨decide_eq_false h1, decide_eq_true (by omega)⟩
    clear hx K4 B4 E4
    go_wp2_with ((apply load_by rfl _ _ rfl _ rfl); (focus (with_reducible assumption)))
    refine HN.out.mono ?_
    rintro e W5 ⟨rfl, q5⟩
    rcases hd with h1 | ⟨h1, h2⟩
    all_goals
      go_wp2_with fail
      go_returns
      exact ⟨rfl, HE.out.trans q5⟩
  have HN := Lib.hid (gnewW (fuC x0) (some ⟨gb, 0, none⟩) 1 1 plB 0 0 W4 B4 (Nat.le_refl _) plPF (fu_err_yes hx))
  have HX := Lib.hid hx
  clear B4 hx
  go_wp2_with ((apply load_by rfl _ _ rfl _ rfl); (focus (with_reducible assumption)))
  refine HN.out.mono ?_
  rintro e W5 ⟨G, rfl, g5, q5, hG5, _⟩
  have HF := Lib.hid (show FU w W5 gc G x0 (PS.zero x0.toNat) [] 0 from ⟨E4.trans q5, g5, ⟨_, K4.ext q5⟩, hge, fun g hg => by have := hG5 g hg; omega⟩)
  clear HN ld E4 K4 q5 g5 hG5
  have hi := HI.out
  by_cases hr : (1 ≤ x1 ∧ x1 ≤ 20) ∧ 1 ≤ x2 ∧ x2 ≤ 20
  case neg =>
    have hd : decide (x1 < 1) = true ∨ (decide (x1 < 1) = false ∧ decide (20 < x1) = true) ∨ (decide (x1 < 1) = false ∧ decide (20 < x1) = false ∧ decide (x2 < 1) = true) ∨ (decide (x1 < 1) = false ∧ decide (20 < x1) = false ∧ decide (x2 < 1) = false ∧ decide (20 < x2) = true) := by
      simp only [decide_eq_true_eq, decide_eq_false_iff_not]
      omega
    clear hr hi
    rcases hd with h1 | ⟨h1, h2⟩ | ⟨h1, h2, h3⟩ | ⟨h1, h2, h3, h4⟩
    all_goals
      go_wp2_with fail
      go_returns
      exact ⟨rfl, HF.out.ext⟩
  obtain ⟨⟨n1, n2⟩, p1, p2⟩ := hr
  clear hi
  obtain ⟨N, rfl⟩ : ∃ N : Nat, x1 = N := ⟨x1.toNat, by omega⟩
  obtain ⟨p, rfl⟩ : ∃ p : Nat, x2 = p := ⟨x2.toNat, by omega⟩
  have h1 : decide ((N : Int) < 1) = false := decide_eq_false (by omega)
  have h2 : decide (20 < (N : Int)) = false := decide_eq_false (by omega)
  have h3 : decide ((p : Int) < 1) = false := decide_eq_false (by omega)
  have h4 : decide (20 < (p : Int)) = false := decide_eq_false (by omega)
  go_wp2_with fail
  clear h1 h2 h3 h4
  go_loopw [11] (fun t wr => ∃ T : Nat, T ≤ 2 ∧ t = .int .i64 T ∧ ∃ s, s.n = x0.toNat ∧ FU w wr gc G x0 s [] (30 * (T : Int))) (fun t _ => 2 - (intOf t).toNat)
  case atStart => exact ⟨0, by omega, rfl, _, rfl, HF.out⟩
  case round =>
    obtain ⟨T, hT, rfl, s, hsn, hU⟩ := hrel
    have HU := Lib.hid hU
    clear hU HF
    by_cases hlt : T < 2
    case neg =>
      obtain rfl : T = 2 := by omega
      go_wp2_with fail
      go_returns
      exact ⟨rfl, HU.out.ext⟩
    have hlt2 : (T : Int) < 2 := by omega
    have wT : IntKind.i64.wrap ((T : Int) + 1) = (T : Int) + 1 := IntWalk.i64_in _ (by omega)
    go_wp2_with fail
    go_loopw [12, 13] (fun gv iv wr2 => ∃ given i : Nat, ∃ s B, gv = .int .i64 given ∧ iv = .int .i64 i ∧ i ≤ N ∧ FullB s B (30 * (T : Int)) N p x0.toNat i 0 given ∧ FU w wr2 gc G x0 s B (30 * (T : Int))) (fun _ iv _ => N - (intOf iv).toNat)
    case atStart => exact ⟨0, 0, s, [], rfl, rfl, Nat.zero_le _, FullB.start _ N p hsn HU.out.gw.tab.inv, HU.out⟩
    case round =>
      clear HU hsn s
      obtain ⟨given, i, s, B, rfl, rfl, hi, hB, hU⟩ := hrel
      by_cases hin : i < N
      case neg =>
        obtain rfl : i = N := by omega
        have hfew := hB.few hU.gw.tab.inv
        have hfit := hB.fit
        have hlen := hB.len
        have hx := HX.out
        have w1 : IntKind.i64.wrap ((p : Int) + 8) = (p : Int) + 8 := IntWalk.i64_in _ (by omega)
        have w2 : IntKind.i64.wrap ((p : Int) + 8 - 1) = (p : Int) + 8 - 1 := IntWalk.i64_in _ (by omega)
        have hd8 : ((p : Int) + 8 - 1) / 8 = (((p + 7) / 8 : Nat) : Int) := by omega
        have hd3 : (p + 7) / 8 ≤ 3 := by omega
        have hM60 : (p + 7) / 8 * i ≤ 3 * 20 := Nat.mul_le_mul hd3 (by omega)
        have hP400 : i * p ≤ 20 * 20 := Nat.mul_le_mul (by omega) (by omega)
        have HU := Lib.hid (And.intro hB hU)
        clear hB hU
        go_upto_region 26 with (fail)
        rw [hd8]
        generalize (p + 7) / 8 = d at *
        have wm : IntKind.i64.wrap ((d : Int) * (i : Int)) = ((d * i : Nat) : Int) := by
          rw [← Int.natCast_mul]
          exact IntWalk.i64_in _ (by omega)
        have wp : IntKind.i64.wrap ((i : Int) * (p : Int)) = ((i * p : Nat) : Int) := by
          rw [← Int.natCast_mul]
          exact IntWalk.i64_in _ (by omega)
        have w8 : IntKind.i64.wrap (x0 * 8) = x0 * 8 := IntWalk.i64_in _ (by omega)
        have c8 : decide (x0 * 8 < (given : Int)) = false := decide_eq_false (by omega)
        generalize hM : d * i = M at *
        generalize hQ : i * p = Q at *
        have hcase : decide ((M : Int) ≤ x0) = false ∨ (decide ((M : Int) ≤ x0) = true ∧ Q = given) := by
          by_cases hle : (M : Int) ≤ x0
          · refine .inr ⟨decide_eq_true hle, ?_⟩
            have := (hfit (by omega)).2
            omega
          · exact .inl (decide_eq_false hle)
        have HN := Lib.hid (fun V (E : Ext wr V) => gbinds_any G (fuC x0) plB s B (30 * (T : Int)) V ((HU.out.2.grow E).gw))
        clear hfit w1 w2 hd8 hd3 hM60 hP400 hM hQ
        rcases hcase with hc | ⟨hc, rfl⟩
        all_goals
          go_wp2_with fail
          refine (HN.out wr (Ext.refl wr)).mono ?_
          rintro e W6 ⟨v6, rfl, o6, q6⟩
          obtain ⟨a6, n6, c6, rfl, _, r6⟩ := o6.read
          have hn6 : n6 = B.length := r6.1.symm
          rw [hlen] at hn6
          subst hn6
          have hU6 := HU.out.2.grow q6
          have HT := Lib.hid (gtick_any G (fuC x0) plB s B (30 * (T : Int)) 30 W6 hU6.gw (by omega) (by omega))
          have HU6 := Lib.hid hU6
          clear o6 q6 r6 hU6 HN hc
          go_wp2_with fail
          refine HT.out.mono ?_
          rintro e W7 ⟨rfl, gw7, k7⟩
          have hU7 := HU6.out.turn gw7 all_tick k7
          rw [HU.out.1.gone] at hU7 gw7
          have HB7 := Lib.hid (gbinds_any G (fuC x0) plB _ _ _ W7 gw7)
          have HU7 := Lib.hid hU7
          clear HT gw7 k7 HU6 hU7
          go_wp2_with fail
          refine HB7.out.mono ?_
          rintro e W8 ⟨v8, rfl, o8, q8⟩
          obtain ⟨a8, n8, c8', rfl, _, r8⟩ := o8.read
          obtain rfl : n8 = 0 := r8.1.symm
          have hU8 := HU7.out.grow q8
          have HF := Lib.hid hU8
          have hsz := HU.out.1.size
          clear o8 q8 r8 hU8 HB7 HU7
          go_wp2_with fail
          go_roundw
          case rel => exact ⟨T + 1, by omega, by go_num, s.backs (outB (30 * (T : Int) + 30) B), hsz, by
            have e : 30 * ((T + 1 : Nat) : Int) = 30 * (T : Int) + 30 := by omega
            rw [e]
            exact HF.out⟩
          case measure => simp [intOf] <;> omega
      have hin2 : (i : Int) < (N : Int) := by omega
      have wi : IntKind.i64.wrap ((i : Int) + 1) = (i : Int) + 1 := IntWalk.i64_in _ (by omega)
      have HU := Lib.hid (And.intro hB hU)
      clear hB hU
      go_wp2_with fail
      go_loopw [12, 14] (fun gv kv wr3 => ∃ given k : Nat, ∃ s B, gv = .int .i64 given ∧ kv = .int .i64 k ∧ k ≤ p ∧ FullB s B (30 * (T : Int)) N p x0.toNat i k given ∧ FU w wr3 gc G x0 s B (30 * (T : Int))) (fun _ kv _ => p - (intOf kv).toNat)
      case atStart => exact ⟨given, 0, s, B, rfl, rfl, Nat.zero_le _, HU.out.1, HU.out.2⟩
      case round =>
        clear HU
        obtain ⟨given, k, s, B, rfl, rfl, hk, hB, hU⟩ := hrel
        by_cases hkp : k < p
        case neg =>
          obtain rfl : k = p := by omega
          have HU := Lib.hid (And.intro hB hU)
          clear hB hU
          go_wp2_with fail
          go_roundw
          case rel => exact ⟨given, i + 1, s, B, rfl, by go_num, by omega, HU.out.1.client, HU.out.2⟩
          case measure => simp [intOf] <;> omega
        have hkp2 : (k : Int) < (p : Int) := by omega
        have wk : IntKind.i64.wrap ((k : Int) + 1) = (k : Int) + 1 := IntWalk.i64_in _ (by omega)
        have hfew := hB.few hU.gw.tab.inv
        have hx := HX.out
        have wg : IntKind.i64.wrap ((given : Int) + 1) = (given : Int) + 1 := IntWalk.i64_in _ (by omega)
        have hi20 : i ≤ 20 := by omega
        have hk20 : k ≤ 20 := by omega
        obtain ⟨cv, K⟩ := hU.cfg
        have lb : (Instr.loadAt 23 (.pointer (some ⟨gc, 0, none⟩))).run Tryz.prog wr = .ok (.agg #[.int .i64 1, .int .i64 0, .int .i64 0, .int .i64 0, .int .i64 0, .int .i64 0, .int .i64 0, .int .i64 0]) wr := K.cfgVip
        have hS := fu_sent hi20 hk20
        have hx6 : sentX (fuSg k) (fuCl i) sx1 9 [] = sent6 (fuSg k) (fuCl i) sx1 9 [] := if_pos (sentQ_of hS)
        have HSE := sent_any (fuSg k) (fuCl i) sx1 9 none 0 0 [] wr Ints.nil Pl.IsB.nil (Nat.zero_le _)
        rw [hx6] at HSE
        have hisb := Lib.hid (hS.isB Pl.IsB.nil)
        have hh := Lib.hid (fu_head x0 hi20 hk20)
        have hg6 := Lib.hid (fu_g6 (n := x0) hi20 hk20 (s := s) (B := B) (now := 30 * (T : Int)) (okT_iff.2 (by omega)) hB.new)
        clear hS hx6 K hx
        generalize sent6 (fuSg k) (fuCl i) sx1 9 [] = XS at *
        unfold Six.v fuCl at HSE
        replace HSE := Lib.hid HSE
        have HU := Lib.hid (And.intro hB hU)
        clear hB hU hfew
        go_wp2_with ((apply load_by rfl _ _ rfl _ rfl); (focus (with_reducible assumption)))
        refine HSE.out.mono ?_
        rintro e W6 ⟨⟨v6, rfl, o6⟩, q6⟩
        have hU6 := HU.out.2.grow q6
        obtain ⟨a6, n6, c6, rfl, hn6, r6, _⟩ := o6.readn
        have HIN := Lib.hid (gin6_any G (fuC x0) plB s B (30 * (T : Int)) a6 n6 c6 XS W6 hU6.gw (fu_ok HX.out) r6 hisb.out hn6 hh.out)
        generalize g6 (fuC x0) plB s B (30 * (T : Int)) XS = R at *
        have HU6 := Lib.hid hU6
        clear HSE lb o6 q6 r6 hU6 hisb hh
        go_wp2_with fail
        refine HIN.out.mono ?_
        rintro e W7 ⟨⟨v7, rfl, o7⟩, gw7, k7⟩
        have hU7 := HU6.out.turn gw7 all_mut k7
        clear HIN o7 gw7 k7 HU6
        rcases hg6.out with ⟨hq, r1, r2, r3⟩ | ⟨hq, r1, r2, r3⟩
        · rw [r2, r3] at hU7
          rw [r1, erv_zero]
          have HF := Lib.hid (And.intro (HU.out.1.took hkp hin (by omega) hq) hU7)
          have e3 : ((0 : Int) == 3) = false := rfl
          clear hU7 hg6 r1 r2 r3 hq HU
          go_wp2_with fail
          refine (error_nil 3 _).mono ?_
          rintro e W8 ⟨rfl, rfl⟩
          rw [e3]
          go_wp2_with fail
          go_roundw
          case rel => exact ⟨given + 1, k + 1, _, _, by go_num, by go_num, by omega, HF.out.1, HF.out.2⟩
          case measure => simp [intOf] <;> omega
        · rw [r2, r3] at hU7
          have e1 : erv R.q = errv 3 := by rw [r1]; rfl
          rw [e1]
          have HE := Lib.hid (error_err 3 3 W7 (HG.out.below hU7.ext))
          unfold errv at HE
          unfold errv
          have HF := Lib.hid (And.intro (HU.out.1.none hkp hin (by omega) hq) hU7)
          have e3 : ((3 : Int) == 3) = true := rfl
          clear hU7 hg6 r1 r2 r3 hq HU e1
          go_wp2_with fail
          refine HE.out.mono ?_
          rintro e W8 ⟨rfl, q8⟩
          have q8' : Ext W7 W8 := q8
          have hU8 := HF.out.2.grow q8'
          have HF8 := Lib.hid (And.intro HF.out.1 hU8)
          clear q8 q8' hU8 HF HE
          rw [e3]
          go_wp2_with fail
          go_roundw
          case rel => exact ⟨given, k + 1, s, B, rfl, by go_num, by omega, HF8.out.1, HF8.out.2⟩
          case measure => simp [intOf] <;> omega
set_option maxRecDepth 100000 in
theorem lifted (os : Os) (started : os.Started) (H : Type) (enc : TypeId × Value → H) :
    ReturnsInHanded {} Tryz.checked os 4 .any (fun w args => (Rows.topFullSpec.pre enc Tryz.prog Tryz.f4 [] false w args ∧ laidMetH Tryz.prog laid w) ∧ sizedMet enc Tryz.prog Tryz.f4 (OpenSpec.ofChange Rows.topFullSpec) false w args)
      (Rows.topFullSpec.post enc Tryz.prog Tryz.f4 false true false false) := by
  refine returnsInHanded_of_change_and (C := Tryz.checked) (X := fun w _ => laidMetH Tryz.prog laid w) (fun _ _ _ hh h => h.of_heap hh) own started (by kernel_rfl) Tryz.func4
    (ChangeSpec.witness_at (enc := enc) (C := Tryz.checked) (os := os) (X := fun w _ => laidMetH Tryz.prog laid w) false (laidWorld os) #[.int .i64 0, .int .i64 0, .int .i64 0] 8 rfl (by kernel_rfl) (by kernel_rfl) (by kernel_rfl) (by kernel_rfl) (by kernel_rfl) (laidWorld_met os _)) ?_
  intro W base args ds gs before hval0 hW _ _ hL _
  have hval : ∀ (j : Nat) t v, Tryz.f4.params[j]? = some t → args[j]? = some v → Value.okWide Tryz.prog W .any base t v := hval0
  have hW' := hW
  obtain ⟨p, q, hA0, hV0, rfl, hfz, hnd⟩ := hW
  have hA : DataW.TrodAll enc Tryz.prog W 0 (fun _ => true) true Tryz.f4.params.toList args.toList ds p := hA0
  have hV : DataW.TrodVars enc Tryz.prog W (fun _ => true) [] gs q := hV0
  have hg := handle_of_laid hL
  rw [Tryz.params4] at hA hval
  obtain ⟨v0, vs0, d0, ds0, p0, q0, hargs, rfl, rfl, h0, r0⟩ := trodAll_cons hA
  obtain ⟨v1, vs1, d1, ds1, p1, q1, rfl, rfl, rfl, h1, r1⟩ := trodAll_cons r0
  obtain ⟨v2, vs2, d2, ds2, p2, q2, rfl, rfl, rfl, h2, r2⟩ := trodAll_cons r1
  obtain ⟨rfl, rfl, rfl⟩ := trodAll_nil r2
  obtain rfl : args = #[v0, v1, v2] := by cases args; simp_all
  obtain ⟨rfl, rfl⟩ := vars_nil hV
  have lt0 : ∀ x ∈ p0, x.block < W.heap.size := by obtain ⟨m, hm⟩ := h0; exact DataW.trod_lt m _ _ _ hm
  have k0 := h0
  obtain ⟨x0, rfl, _, _, w0'⟩ := open_int Tryz.underlying3 (hval 0 3 v0 rfl rfl) h0
  have w0 : IsInt x0 := wf_i64 w0'
  have lt1 : ∀ x ∈ p1, x.block < W.heap.size := by obtain ⟨m, hm⟩ := h1; exact DataW.trod_lt m _ _ _ hm
  have k1 := h1
  obtain ⟨x1, rfl, _, _, w1'⟩ := open_int Tryz.underlying3 (hval 1 3 v1 rfl rfl) h1
  have w1 : IsInt x1 := wf_i64 w1'
  have lt2 : ∀ x ∈ p2, x.block < W.heap.size := by obtain ⟨m, hm⟩ := h2; exact DataW.trod_lt m _ _ _ hm
  have k2 := h2
  obtain ⟨x2, rfl, _, _, w2'⟩ := open_int Tryz.underlying3 (hval 2 3 v2 rfl rfl) h2
  have w2 : IsInt x2 := wf_i64 w2'
  clear hA0 hval0
  refine (walk x0 x1 x2 W hg w0 w1 w2).mono fun e W' ⟨he, bel⟩ => ?_
  subst he
  exact ⟨_, rfl, _, _, _, [], _, [], hW', trodAll_mk1 (shut_bool Tryz.underlying4 _), (trodAll_cons_mk (Below.trod laidOut (by kernel_rfl) (of_decide_eq_true (by kernel_rfl)) k0 bel lt0) (trodAll_cons_mk (Below.trod laidOut (by kernel_rfl) (of_decide_eq_true (by kernel_rfl)) k1 bel lt1) (trodAll_cons_mk (Below.trod laidOut (by kernel_rfl) (of_decide_eq_true (by kernel_rfl)) k2 bel lt2) trodAll_mk0))), rfl, bel.frame _, fun h => by cases h⟩

theorem over : Rows.topFullRow.holds Tryz.pinned (OpenSpec.ofChange Rows.topFullSpec) :=
  OpenClaim.holds_of_wide 4 Tryz.f4 rfl rfl rfl rfl rfl rfl rfl ⟨rfl, rfl, rfl, rfl, rfl⟩ rfl rfl rfl rfl rfl (by kernel_rfl) Tryz.func4 (by kernel_rfl)
    (of_decide_eq_true (by kernel_rfl)) (by unfold Func.isWrapper; first | (rw [if_pos (by decide +kernel)]; kernel_rfl) | (rw [if_neg (by decide +kernel)]; exact ⟨rfl, rfl⟩))
    (fun os started H enc _ => lifted os started H enc)

/-- THE STATEMENT. -/
theorem proved : Rows.TopFullCardSaid :=
  Claim7.holds_tied_plain_at .later [] _ _ _ _
    over (fun _ h => by cases h) (by kernel_rfl) (fun _ h => by cases h) topFull_row_tie rfl ⟨rfl, rfl⟩ (by kernel_rfl) rfl
    (fun f fn hf hfn => by
      obtain rfl : f = 4 := Option.some.inj ((show Tryz.prog.funcNamed "gangplank/gangplanktop.TopFull" = some 4 by kernel_rfl).symm.trans hf) |>.symm
      obtain rfl : fn = Tryz.f4 := (Option.some.inj (Tryz.func4.symm.trans hfn)).symm
      exact ⟨by kernel_rfl, fun j t ht => by
        rw [Tryz.params4] at ht
        have hall : ((#[3, 3, 3] : Array Nat).all fun t => !Tryz.prog.wantsStandIn t) = true := by kernel_rfl
        have := Array.all_eq_true'.1 hall t (Array.mem_of_getElem? ht)
        show Tryz.prog.wantsStandIn t = false
        simpa using this⟩)
    (by kernel_rfl)
#print axioms proved
