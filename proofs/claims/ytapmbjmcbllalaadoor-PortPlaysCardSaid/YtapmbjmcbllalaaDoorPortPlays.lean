/- The law PortPlays: any ports that are taken and given back are told of as the document says. Conditions: the row's own: errors.errorType holds its handle (tied). -/
import Derived.Test.YtapmbjmcbllalaaDoorFrameD
import Derived.Test.YtapmbjmcbllalaaDoorStp
import Derived.Test.YtapmbjmcbllalaaDoorRPort3
import Derived.Test.YtapmbjmcbllalaaDoorPortC
import Derived.Test.YtapmbjmcbllalaaDoorRNew
import Derived.Test.YtapmbjmcbllalaaDoorSame
import Derived.Test.YtapmbjmcbllalaaDoorTie
import Derived.Test.YtapmbjmcbllalaaDoorCards
import Derived.SevenTiedAt
import Derived.Deep.DeepCutAuto
import Derived.Deep.CutBlock
namespace Go.Proofs.YtapmbjmcbllalaaDoor.portPlays
open Go.ChangeShapes Go.WideShapes Go.ChangeAt Go.RowKit
/-- Both sides' ports, between two steps. -/
structure Now (w0 w : World) (gP gB gM gW gT n : Nat) (s : PS) (r : RS) : Prop where
  n : s.n = n
  prt : Prt w gP gB s
  rrt : Rrt w gM gW gT r
  like : Like s r
  apP : gP ≠ gM ∧ gP ≠ gW ∧ gP ≠ gT
  apB : gB ≠ gM ∧ gB ≠ gW ∧ gB ≠ gT
  newB : w0.heap.size ≤ gB
  newW : w0.heap.size ≤ gW
  newT : w0.heap.size ≤ gT
  ext : Below w0.heap.size w0 w
theorem Now.grow {w0 w w' : World} {gP gB gM gW gT n : Nat} {s : PS} {r : RS} (h : Now w0 w gP gB gM gW gT n s r) (e : Ext w w') : Now w0 w' gP gB gM gW gT n s r :=
  { h with prt := h.prt.ext e, rrt := h.rrt.ext e, ext := h.ext.trans (e.mono h.ext.size) }
set_option maxRecDepth 100000 in
set_option maxHeartbeats 4000000 in
theorem walk (x0 : Int) (a1 : Option Addr) (n1 c1 : Nat) (l1 : List Stp) (w : World) (hg : Handle w) (w0 : IsInt x0) (w1 : IsSteps w a1 n1 c1 l1) :
    Calls Tryd.prog 5 #[.int .i64 x0, .slice a1 n1 c1] w fun e w' => e = .returned (.bool true) ∧ Below w.heap.size w w' := by
  obtain ⟨hl, hnc, hcm, his⟩ := w1
  have HL := Lib.hid hl
  have HI := Lib.hid his
  have HG := Lib.hid hg
  clear hl his hg
  go_enter Tryd.func5, Tryd.ntmps5
  go_wp2_with fail
  by_cases hx : x0 < 1 ∨ 16 < x0
  · refine (new_no x0 w hx).mono ?_
    rintro e W5 ⟨rfl, rfl⟩
    have HE := Lib.hid (err_same 1 W5 HG.out)
    rw [erv_ne (by decide)] at HE
    unfold errv at HE ⊢
    by_cases h1 : x0 < 1
    · have d1 : decide (x0 < 1) = true := decide_eq_true h1
      clear hx
      go_wp2_with fail
      refine HE.out.mono ?_
      rintro e W6 ⟨rfl, b6⟩
      go_wp2_with fail
      go_ret
      exact ⟨rfl, b6⟩
    · have d1 : decide (x0 < 1) = false := decide_eq_false h1
      have d2 : decide (16 < x0) = true := decide_eq_true (by omega)
      clear hx
      go_wp2_with fail
      refine HE.out.mono ?_
      rintro e W6 ⟨rfl, b6⟩
      go_wp2_with fail
      go_ret
      exact ⟨rfl, b6⟩
  obtain ⟨n, rfl⟩ : ∃ n : Nat, x0 = (n : Int) := ⟨x0.toNat, by omega⟩
  have hn0 : 1 ≤ n := by omega
  have hn1 : n ≤ 16 := by omega
  have d1 : decide ((n : Int) < 1) = false := decide_eq_false (by omega)
  have d2 : decide ((16 : Int) < (n : Int)) = false := decide_eq_false (by omega)
  clear hx
  refine (new_ok n w hn0 hn1).mono ?_
  rintro e W5 ⟨gP, gB, rfl, P5, E5, hnP, hnB⟩
  go_wp2_with fail
  refine (rnew_ok n W5 hn0 hn1).mono ?_
  rintro e W6 ⟨gM, gW, gT, rfl, R6, E6, hnM, hnW, hnT⟩
  have hlP := P5.ptr.lt
  have hlB := P5.row.lt
  have hz5 := E5.size
  have N6 : Now w W6 gP gB gM gW gT n (PS.zero n) (RS.zero n) := by
    refine ⟨rfl, P5.ext E6, R6, ⟨rfl, rfl, fun i hi h => by cases h⟩, ⟨?_, ?_, ?_⟩, ⟨?_, ?_, ?_⟩, ?_, ?_, ?_, E5.trans E6⟩ <;> omega
  clear P5 R6 E5 E6 hnM hnW hnT hnP hnB hlP hlB hz5 d1 d2
  go_wp2_with fail
  go_loopw [8] (fun i wr => ∃ (k : Nat) (s : PS) (r : RS), k ≤ n1 ∧ k ≤ 80 ∧ i = .int .i64 k ∧ Now w wr gP gB gM gW gT n s r) (fun i _ => n1 - (intOf i).toNat)
  case atStart => exact ⟨0, PS.zero n, RS.zero n, Nat.zero_le _, by omega, rfl, N6⟩
  case round =>
    clear N6
    obtain ⟨k, s, r, hk, hk8, rfl, N⟩ := hrel
    have HN := Lib.hid N
    by_cases hend : k = n1 ∨ k = 80
    · have hE := N.ext
      by_cases hkn : k = n1
      · have d1 : decide ((k : Int) < (n1 : Int)) = false := decide_eq_false (by omega)
        clear hend N
        go_wp2_with fail
        go_ret
        exact ⟨rfl, hE⟩
      · have d1 : decide ((k : Int) < (n1 : Int)) = true := decide_eq_true (by omega)
        have d2 : decide ((k : Int) < 80) = false := decide_eq_false (by omega)
        clear hend N
        go_wp2_with fail
        go_ret
        exact ⟨rfl, hE⟩
    have hkn : k < n1 := by omega
    have hk80 : k < 80 := by omega
    clear hend
    obtain ⟨st0, hst0⟩ : ∃ st0, l1[k]? = some st0 := ⟨_, List.getElem?_eq_getElem (by rw [HL.out.1]; omega)⟩
    have hIs := HI.out st0 (List.mem_of_getElem? hst0)
    obtain ⟨ba, oa, rfl, _, _⟩ := HL.out.at N.ext (by omega)
    have hkz : (k : Int) < (n1 : Int) := by omega
    have hk80' : (k : Int) < 80 := by omega
    have lda := (HL.out.ext N.ext).stp hst0
    have KZ := Blk.new wr 39 #[.int .i64 0, .int .i64 0, .int .i64 0, .int .i64 0, .int .i64 0, .int .i64 0, .int .i64 0, .int .i64 0, .int .i64 0, .int .i64 0, .int .i64 0, .int .i64 0, .int .i64 0, .int .i64 0, .int .i64 0, .int .i64 0, .int .i64 0, .int .i64 0, .int .i64 0, .int .i64 0, .int .i64 0, .int .i64 0, .int .i64 0, .int .i64 0, .int .i64 0, .int .i64 0, .int .i64 0, .int .i64 0, .int .i64 0, .int .i64 0, .int .i64 0]
    have sta := KZ.stpSet st0
    have K5 := KZ.row st0.cells
    have E5 : Ext wr _ := ((Ext.refl wr).alloc (.cells #[.int .i64 0, .int .i64 0, .int .i64 0, .int .i64 0, .int .i64 0, .int .i64 0, .int .i64 0, .int .i64 0, .int .i64 0, .int .i64 0, .int .i64 0, .int .i64 0, .int .i64 0, .int .i64 0, .int .i64 0, .int .i64 0, .int .i64 0, .int .i64 0, .int .i64 0, .int .i64 0, .int .i64 0, .int .i64 0, .int .i64 0, .int .i64 0, .int .i64 0, .int .i64 0, .int .i64 0, .int .i64 0, .int .i64 0, .int .i64 0, .int .i64 0] 39)).row (k := wr.heap.size) (Nat.le_refl _) st0.cells
    clear KZ N
    go_upto_region 11 with (first | ((apply load_by rfl _ _ rfl _ rfl); (focus (with_reducible assumption))) | ((apply store_by rfl _ _ _ rfl _ rfl); (focus (with_reducible assumption)); (focus rfl)))
    refine at_worldE (fun W => Now w W gP gB gM gW gT n s r ∧ Blk W wr.heap.size 39 st0.cells) ⟨HN.out.grow E5, K5⟩ ?_
    have hlB := HN.out.prt.row.lt
    have hlW := HN.out.rrt.who.lt
    have hlT := HN.out.rrt.tak.lt
    clear lda sta K5 E5
    rintro W6 ⟨N6, K6⟩
    have hz6 := N6.prt.row.lt
    generalize wr.heap.size = g6 at *
    have HN6 := Lib.hid N6
    have HK6 := Lib.hid K6
    obtain ⟨cw, cn, _, _⟩ := K6.stpNums
    have hwho := K6.stpWho
    clear N6 K6
    have hor : st0.what = 0 ∨ st0.what = 1 ∨ (¬ st0.what = 0 ∧ ¬ st0.what = 1) := by omega
    go_upto_block 2 with (fail)
    go_cut [10, 11] (fun a b wc => a = .bool true ∧ b = .bool true ∧ ∃ (s : PS) (r : RS), Now w wc gP gB gM gW gT n s r ∧ Blk wc g6 39 st0.cells)
    case first =>
      have hg6 : g6 ≠ gW ∧ g6 ≠ gT ∧ g6 ≠ gB := ⟨by omega, by omega, by omega⟩
      obtain ⟨h6W, h6T, h6B⟩ := hg6
      have apP := HN6.out.apP
      have apB := HN6.out.apB
      have NB := HN6.out.newB
      have NW := HN6.out.newW
      have NT := HN6.out.newT
      by_cases hw : st0.what = 0 ∨ st0.what = 1
      · have hT := rtake_any gM gW gT s r st0.who W6 HN6.out.rrt HN6.out.like
        have HT := Lib.hid hT
        have hb : ∃ b : Bool, ((st0.what == 0) = true) ∨ ((st0.what == 0) = false ∧ (st0.what == 1) = true) := ⟨true, by rcases hw with h | h <;> rw [h] <;> decide⟩
        obtain ⟨_, hb⟩ := hb
        clear hor hT hw
        rcases hb with hb | ⟨hb0, hb⟩
        all_goals
          go_wp2_with ((apply load_by rfl _ _ rfl _ rfl); (focus (with_reducible assumption)))
          refine HT.out.mono ?_
          rintro e W7 ⟨rfl, ⟨r7, R7, L7⟩, T7⟩
          have P7 := HN6.out.prt.two T7 ⟨apP.2.1, apP.2.2⟩ ⟨apB.2.1, apB.2.2⟩
          have K7 := HK6.out.two T7 h6W h6T
          have B7 : Below w.heap.size w W7 := Below.two HN6.out.ext T7 HN6.out.ext.size NW NT
          have hwho7 := K7.stpWho
          clear hwho T7
          go_wp2_with ((apply load_by rfl _ _ rfl _ rfl); (focus (with_reducible assumption)))
          refine (take_any gP gB s st0.who W7 P7).mono ?_
          rintro e W8 ⟨rfl, P8, g8⟩
          have R8 := R7.only g8 (fun h => apB.1 h.symm) (fun h => apB.2.1 h.symm) (fun h => apB.2.2 h.symm)
          have K8 := K7.only g8 h6B
          have B8 : Below w.heap.size w W8 := Below.only B7 g8 B7.size NB
          have N8 : Now w W8 gP gB gM gW gT n (s.take st0.who) r7 := ⟨by rw [← HN6.out.n]; unfold PS.take; split <;> rfl, P8, R8, L7, apP, apB, NB, NW, NT, B8⟩
          have HN8 := Lib.hid N8
          have HK8 := Lib.hid K8
          clear P7 K7 B7 hwho7 P8 g8 R7 L7 R8 K8 N8
          go_wp2_with fail
          refine (err_same (s.takeQ st0.who) W8 (HG.out.below B8)).mono ?_
          rintro e W9 ⟨rfl, b9⟩
          have E9 : Ext W8 W9 := b9
          clear B8 b9
          go_wp2_with fail
          go_meet
          exact ⟨rfl, by simp, _, _, HN8.out.grow E9, HK8.out.ext E9⟩
      · have hb0 : (st0.what == 0) = false := by simp; omega
        have hb1 : (st0.what == 1) = false := by simp; omega
        have HT := Lib.hid (rgive_any gM gW gT s r st0.n W6 HN6.out.rrt HN6.out.like hIs.n)
        clear hor hw hwho
        go_wp2_with fail
        refine HT.out.mono ?_
        rintro e W7 ⟨rfl, ⟨r7, R7, L7⟩, T7⟩
        have P7 := HN6.out.prt.two T7 ⟨apP.2.1, apP.2.2⟩ ⟨apB.2.1, apB.2.2⟩
        have K7 := HK6.out.two T7 h6W h6T
        have B7 : Below w.heap.size w W7 := Below.two HN6.out.ext T7 HN6.out.ext.size NW NT
        have cn7 := K7.stpNums.2.1
        clear cn T7
        go_wp2_with fail
        refine (give_any gP gB s st0.n W7 P7 hIs.n).mono ?_
        rintro e W8 ⟨rfl, P8, g8⟩
        have R8 := R7.only g8 (fun h => apB.1 h.symm) (fun h => apB.2.1 h.symm) (fun h => apB.2.2 h.symm)
        have K8 := K7.only g8 h6B
        have B8 : Below w.heap.size w W8 := Below.only B7 g8 B7.size NB
        have N8 : Now w W8 gP gB gM gW gT n (s.back st0.n) r7 := ⟨by rw [← HN6.out.n]; unfold PS.back; split <;> rfl, P8, R8, L7, apP, apB, NB, NW, NT, B8⟩
        have HN8 := Lib.hid N8
        have HK8 := Lib.hid K8
        clear P7 K7 B7 cn7 P8 g8 R7 L7 R8 K8 N8
        go_wp2_with fail
        refine (err_same (s.giveQ st0.n) W8 (HG.out.below B8)).mono ?_
        rintro e W9 ⟨rfl, b9⟩
        have E9 : Ext W8 W9 := b9
        clear B8 b9
        go_wp2_with fail
        go_meet
        exact ⟨rfl, rfl, _, _, HN8.out.grow E9, HK8.out.ext E9⟩
    obtain ⟨rfl, rfl, s', r', N7, K7⟩ := hcut
    clear HN6 HK6 hor cw cn hwho HN
    have HN7 := Lib.hid N7
    have HK7 := Lib.hid K7
    clear N7 K7
    go_wp2_with fail
    refine (free_any gP gB s' wc HN7.out.prt).mono ?_
    rintro e W8 ⟨rfl, E8⟩
    have HN8 := Lib.hid (HN7.out.grow E8)
    have HK8 := Lib.hid (HK7.out.ext E8)
    clear E8
    go_wp2_with fail
    refine (rfree_any gM gW gT s' r' W8 HN8.out.rrt HN8.out.like).mono ?_
    rintro e W9 ⟨rfl, rfl⟩
    have KQ := Blk.new W9 31 zc6
    have N9 := HN8.out.grow ((Ext.refl W9).alloc (.cells zc6 31))
    have K9 := HK8.out.alloc (.cells zc6 31)
    go_upto_region 26 with (fail)
    refine at_worldE (fun W => Now w W gP gB gM gW gT n s' r' ∧ Blk W g6 39 st0.cells ∧ Blk W W9.heap.size 31 zc6) ⟨N9, K9, KQ⟩ ?_
    have hgq : g6 < W9.heap.size := HK8.out.lt
    have hgqB : gB < W9.heap.size := HN8.out.prt.row.lt
    have hgqM : gM < W9.heap.size := HN8.out.rrt.ptr.lt
    have hgqW : gW < W9.heap.size := HN8.out.rrt.who.lt
    have hgqT : gT < W9.heap.size := HN8.out.rrt.tak.lt
    have hgqP : gP < W9.heap.size := HN8.out.prt.ptr.lt
    clear N9 K9 KQ HN8 HK8 HN7 HK7
    rintro W10 ⟨N10, K10, Q10⟩
    generalize W9.heap.size = gq at *
    have HN10 := Lib.hid N10
    have HK10 := Lib.hid K10
    have HQ10 := Lib.hid Q10
    have cn := K10.stpNums.2.1
    clear N10 K10 Q10
    go_wp2_with fail
    refine (rhas_any gM gW gT s' r' st0.n W10 HN10.out.rrt HN10.out.like hIs.n).mono ?_
    rintro e W11 ⟨rfl, rfl⟩
    have hor : s'.has st0.n = true ∨ s'.has st0.n = false := by cases s'.has st0.n <;> simp
    go_upto_if 107 with (fail)
    go_cut [17, 19] (fun a b wc => a = .int .i64 (s'.giveQ st0.n) ∧ b = .bool (s'.has st0.n) ∧ Now w wc gP gB gM gW gT n s' r' ∧ Blk wc g6 39 st0.cells ∧ Blk wc gq 31 (s'.who st0.n).cells)
    case first =>
      rcases hor with hh | hh
      · obtain ⟨i, hi, hi8, hti⟩ := PS.has_at hh
        have hQ : s'.giveQ st0.n = 0 := by unfold PS.giveQ; rw [hh]; rfl
        have hlk := HN10.out.like
        have hsn := HN10.out.n
        have hW : s'.who st0.n = r'.wh i := by
          unfold PS.who
          rw [if_pos hh, hlk.wh i hi8 hti, hi, show 1024 + (i : Int) - 1024 = (i : Int) by omega, Int.toNat_natCast]
        have HF := Lib.hid (And.intro hQ (And.intro hW hh))
        obtain ⟨N, hN⟩ : ∃ N, 8 * r'.n = N := ⟨_, rfl⟩
        have hiN : i < 8 * r'.n := by rw [hlk.n]; exact hi8
        have hiN' : (i : Int) < (N : Int) := by omega
        have w1 : st0.n - 1024 = (i : Int) := by omega
        have w2 : IntKind.i64.wrap (i : Int) = (i : Int) := IntWalk.i64_in _ (by omega)
        have hz0 := HN10.out.newB
        have hne : gM ≠ gq ∧ gW ≠ gq ∧ gT ≠ gq ∧ gP ≠ gq ∧ gB ≠ gq ∧ g6 ≠ gq := by
          have h1 := hgqW; have h2 := hgqT; have h3 := hgqP
          refine ⟨?_, ?_, ?_, ?_, ?_, ?_⟩ <;> omega
        obtain ⟨n1', n2', n3', n4', n5', n6'⟩ := hne
        rw [hh]
        clear hQ hW hh hi hti hlk cn
        go_wp2_with fail
        have S0 : (fun w' => Rrt w' gM gW gT r' ∧ Blk w' g6 39 st0.cells ∧ w'.cell? ⟨gM, 0, none⟩ = some (.slice (some ⟨gW, 0, none⟩) N N) ∧ w'.cell? ⟨g6, 28, none⟩ = some (.int .i64 st0.n)) W11 := by
          refine ⟨HN10.out.rrt, HK10.out, ?_, HK10.out.stpNums.2.1⟩
          rw [← hN]; exact HN10.out.rrt.c0
        refine wp_region_held_drew (S := (fun w' => Rrt w' gM gW gT r' ∧ Blk w' g6 39 st0.cells ∧ w'.cell? ⟨gM, 0, none⟩ = some (.slice (some ⟨gW, 0, none⟩) N N) ∧ w'.cell? ⟨g6, 28, none⟩ = some (.int .i64 st0.n))) (by kernel_rfl) ⟨S0.1.drew, S0.2.1.drew, S0.2.2.1, S0.2.2.2⟩ (fun hS0 => ?_)
        clear S0
        (refine wpAnyH_take (i := 0) (v := ?_) rfl (by kernel_rfl) (by kernel_rfl) (by kernel_rfl) (fun _ _ _ h => h) (Or.inl ⟨by rfl, ?_⟩) (by assumption) ?_; rotate_left; focus (intro w hSw; (try dsimp only at hSw); go_simp; try with_reducible rfl); try simp only [Act.put, List.getElem_toArray, List.getElem_cons_succ, List.getElem_cons_zero, List.setIfInBounds_toArray, List.set_cons_zero, List.set_cons_succ])
        (refine wpAnyH_take (i := 1) (v := ?_) rfl (by kernel_rfl) (by kernel_rfl) (by kernel_rfl) (fun _ _ _ h => h) (Or.inl ⟨by rfl, ?_⟩) (by assumption) ?_; rotate_left; focus (intro w hSw; (try dsimp only at hSw); go_simp; try with_reducible rfl); try simp only [Act.put, List.getElem_toArray, List.getElem_cons_succ, List.getElem_cons_zero, List.setIfInBounds_toArray, List.set_cons_zero, List.set_cons_succ])
        (refine wpAnyH_take (i := 2) (v := ?_) rfl (by kernel_rfl) (by kernel_rfl) (by kernel_rfl) (fun _ _ _ h => h) (Or.inl ⟨by rfl, ?_⟩) (by assumption) ?_; rotate_left; focus (intro w hSw; (try dsimp only at hSw); go_simp; try with_reducible rfl); try simp only [Act.put, List.getElem_toArray, List.getElem_cons_succ, List.getElem_cons_zero, List.setIfInBounds_toArray, List.set_cons_zero, List.set_cons_succ])
        (refine wpAnyH_take (i := 4) (v := ?_) rfl (by kernel_rfl) (by kernel_rfl) (by kernel_rfl) (fun _ _ _ h => h) (Or.inl ⟨by rfl, ?_⟩) (by assumption) ?_; rotate_left; focus (intro w hSw; (try dsimp only at hSw); go_simp; try with_reducible rfl); try simp only [Act.put, List.getElem_toArray, List.getElem_cons_succ, List.getElem_cons_zero, List.setIfInBounds_toArray, List.set_cons_zero, List.set_cons_succ])
        (refine wpAnyH_take (i := 3) (v := ?_) rfl (by kernel_rfl) (by kernel_rfl) (by kernel_rfl) (fun _ _ _ h => h) (Or.inl ⟨by rfl, ?_⟩) (by assumption) ?_; rotate_left; focus (intro w hSw; (try dsimp only at hSw); go_simp; try with_reducible rfl); try simp only [Act.put, List.getElem_toArray, List.getElem_cons_succ, List.getElem_cons_zero, List.setIfInBounds_toArray, List.set_cons_zero, List.set_cons_succ])
        (refine wpAnyH_take (i := 5) (v := ?_) rfl (by kernel_rfl) (by kernel_rfl) (by kernel_rfl) (fun _ _ _ h => h) (Or.inl ⟨by rfl, ?_⟩) (by assumption) ?_; rotate_left; focus (intro w hSw; (try dsimp only at hSw); go_simp; try with_reducible rfl); try simp only [Act.put, List.getElem_toArray, List.getElem_cons_succ, List.getElem_cons_zero, List.setIfInBounds_toArray, List.set_cons_zero, List.set_cons_succ])
        (refine wpAnyH_take (i := 6) (v := ?_) rfl (by kernel_rfl) (by kernel_rfl) (by kernel_rfl) (fun _ _ _ h => h) (Or.inl ⟨by rfl, ?_⟩) (by assumption) ?_; rotate_left; focus (intro w hSw; (try dsimp only at hSw); go_simp; try with_reducible rfl); try simp only [Act.put, List.getElem_toArray, List.getElem_cons_succ, List.getElem_cons_zero, List.setIfInBounds_toArray, List.set_cons_zero, List.set_cons_succ])
        (refine wpAnyH_take (i := 7) (v := ?_) rfl (by kernel_rfl) (by kernel_rfl) (by kernel_rfl) (fun _ _ _ h => h) (Or.inl ⟨by rfl, ?_⟩) (by assumption) ?_; rotate_left; focus (intro w hSw; (try dsimp only at hSw); go_simp; try with_reducible rfl); try simp only [Act.put, List.getElem_toArray, List.getElem_cons_succ, List.getElem_cons_zero, List.setIfInBounds_toArray, List.set_cons_zero, List.set_cons_succ])
        (try simp only [Act.put, List.getElem_toArray, List.getElem_cons_succ, List.getElem_cons_zero, List.setIfInBounds_toArray, List.set_cons_zero, List.set_cons_succ])
        refine wpAnyH_take (i := 8) rfl (by kernel_rfl) (by kernel_rfl) (by kernel_rfl) (fun _ _ _ h => h) (Or.inl ⟨by rfl, fun W hS => exec_load rfl rfl (Rrt.wh hS.1 hiN)⟩) (by assumption) ?_
        (try simp only [Act.put, List.getElem_toArray, List.getElem_cons_succ, List.getElem_cons_zero, List.setIfInBounds_toArray, List.set_cons_zero, List.set_cons_succ])
        (refine wpAnyH_ready (rs := [9]) (by kernel_rfl) (by simp) ?_; refine AllReadyH.cons rfl (fun K hK => ?_) AllReadyH.nil)
        rw [if_pos (by rfl)]
        have D10 : Now w W11.drew gP gB gM gW gT n s' r' := ⟨HN10.out.n, HN10.out.prt.drew, HN10.out.rrt.drew, HN10.out.like, HN10.out.apP, HN10.out.apB, HN10.out.newB, HN10.out.newW, HN10.out.newT, Ext.drew HN10.out.ext⟩
        have Q11 : Blk W11.drew gq 31 zc6 := HQ10.out.drew
        have G11 : Blk W11.drew g6 39 st0.cells := HK10.out.drew
        refine wp_store_at _ _ _ rfl _ rfl (Q11.store (ty := 31) (cs := (r'.wh i).cells) rfl Tryd.size6 (by simp [Six.cells, Value.oneCell'])) rfl ?_
        have R12 : Rrt (W11.drew.setRow gq (r'.wh i).cells) gM gW gT r' := ⟨D10.rrt.ptr.farRow n1' _, D10.rrt.who.farRow n2' _, D10.rrt.tak.farRow n3' _, D10.rrt.ne, D10.rrt.n0, D10.rrt.n1⟩
        have P12 : Prt (W11.drew.setRow gq (r'.wh i).cells) gP gB s' := ⟨D10.prt.ptr.farRow n4' _, D10.prt.row.farRow n5' _, D10.prt.ne, D10.prt.n0, D10.prt.n1⟩
        have G12 := G11.farRow n6' (r'.wh i).cells
        have Q12 := Q11.row (r'.wh i).cells
        have N12 : Now w (W11.drew.setRow gq (r'.wh i).cells) gP gB gM gW gT n s' r' := ⟨D10.n, P12, R12, D10.like, D10.apP, D10.apB, D10.newB, D10.newW, D10.newT, Ext.row D10.ext (by omega) _⟩
        refine hK.out _ _ ⟨R12, G12, by rw [← hN]; exact R12.c0, G12.stpNums.2.1⟩ ?_
        clear hK K
        intro hS
        refine wpAnyH_done (by kernel_rfl) ?_ _
        have HN12 := Lib.hid N12
        have HG12 := Lib.hid G12
        have HQ12 := Lib.hid Q12
        clear R12 P12 G12 Q12 N12 D10 Q11 G11 hS hS0
        go_wp2_with fail
        go_meet
        exact ⟨by rw [HF.out.1], by rw [HF.out.2.2], HN12.out, HG12.out, by rw [HF.out.2.1]; exact HQ12.out⟩
      · have hQ : s'.giveQ st0.n = 4 := by unfold PS.giveQ; rw [hh]; rfl
        have hW : s'.who st0.n = six0 := by unfold PS.who; rw [hh]; rfl
        have HF := Lib.hid (And.intro hQ (And.intro hW hh))
        rw [hh]
        clear cn hQ hW hh
        go_wp2_with fail
        go_meet
        exact ⟨by rw [HF.out.1], by rw [HF.out.2.2], HN10.out, HK10.out, by rw [HF.out.2.1]; exact HQ10.out⟩
    obtain ⟨rfl, rfl, N12, K12, Q12⟩ := hcut
    clear HN10 HK10 HQ10 hor cn
    have HN12 := Lib.hid N12
    have HK12 := Lib.hid K12
    have HQ12 := Lib.hid Q12
    have cn := K12.stpNums.2.1
    clear N12 K12 Q12
    obtain ⟨O, hO⟩ : ∃ O, s'.who st0.n = O := ⟨_, rfl⟩
    have HOW := Lib.hid (owner_any gP gB s' st0.n wc HN12.out.prt hIs.n)
    rw [hO] at HOW HQ12
    clear hO
    go_wp2_with fail
    refine HOW.out.mono ?_
    rintro e W13 ⟨rfl, E13⟩
    have KZ := Blk.new W13 31 zc6
    have st := KZ.store (ty := 31) (cs := O.cells) rfl Tryd.size6 (by simp [Six.cells, Value.oneCell'])
    have K14 := KZ.row O.cells
    have E14 : Ext wc _ := (E13.alloc (.cells zc6 31)).row (k := W13.heap.size) E13.size O.cells
    clear KZ HOW E13 cn
    go_upto_region 31 with (((apply store_by rfl _ _ _ rfl _ rfl); (focus (with_reducible assumption)); (focus rfl)))
    refine at_worldE (fun W => Ext wc W ∧ Blk W W13.heap.size 31 O.cells) ⟨E14, K14⟩ ?_
    clear st E14 K14
    rintro W14 ⟨E14, K14⟩
    have HN14 := Lib.hid (HN12.out.grow E14)
    have HK14 := Lib.hid (HK12.out.ext E14)
    have HQ14 := Lib.hid (HQ12.out.ext E14)
    have HO14 := Lib.hid K14
    clear E14 K14 HN12 HK12 HQ12
    go_wp2_with fail
    refine (err_same (s'.giveQ st0.n) W14 (HG.out.below HN14.out.ext)).mono ?_
    rintro e W15 ⟨rfl, b15⟩
    have E15 : Ext W14 W15 := b15
    have HN15 := Lib.hid (HN14.out.grow E15)
    have HK15 := Lib.hid (HK14.out.ext E15)
    have la := (HO14.out.ext E15).six0
    have lb := (HQ14.out.ext E15).six0
    have lc := fun W => six_same O W
    have hwho := HK15.out.stpWho
    clear b15 E15 HN14 HK14 HQ14 HO14
    go_wp2_with ((apply load_by rfl _ _ rfl _ rfl); (focus (with_reducible assumption)))
    refine (sixFault_any st0.who W15).mono ?_
    rintro e W16 ⟨rfl, E16⟩
    have HN16 := Lib.hid (HN15.out.grow E16)
    have HK16 := Lib.hid (HK15.out.ext E16)
    have hwho16 := HK16.out.stpWho
    have wk : IntKind.i64.wrap ((k : Int) + 1) = (k : Int) + 1 := IntWalk.i64_in _ (by omega)
    clear la lb lc hwho E16 HN15 HK15
    cases ho : okS st0.who
    case false =>
      have hs : sixE st0.who = 1 := by unfold sixE; exact if_neg (by intro h; unfold okS at ho; rw [ho] at h; cases h)
      have HB := Lib.hid (fun W => blocks_no gP st0.who W ho)
      rw [hs]
      clear hs ho
      go_wp2_with ((apply load_by rfl _ _ rfl _ rfl); (focus (with_reducible assumption)))
      refine (HB.out W16).mono ?_
      rintro e W17 ⟨rfl, E17⟩
      have HN17 := Lib.hid (HN16.out.grow E17)
      have HE := Lib.hid (err_same 1 W17 (HG.out.below HN17.out.ext))
      rw [erv_ne (by decide)] at HE
      unfold errv at HE ⊢
      clear hwho16 E17
      go_wp2_with fail
      refine HE.out.mono ?_
      rintro e W18 ⟨rfl, b18⟩
      have E18 : Ext W17 W18 := b18
      clear b18
      go_wp2_with fail
      refine (sints_yes none none 0 0 0 [] W18 Ints.nil Ints.nil (by omega)).mono ?_
      rintro e W19 ⟨rfl, E19⟩
      have HN19 := Lib.hid ((HN17.out.grow E18).grow E19)
      clear E18 E19
      go_wp2_with fail
      go_roundw
      case rel => exact ⟨k + 1, s', r', by omega, by omega, by go_num, HN19.out⟩
      case measure => simp [intOf] <;> omega
    case true =>
      have hs : sixE st0.who = 0 := by unfold sixE; exact if_pos ho
      have HO := Lib.hid ho
      have hsn := HN16.out.n
      have hbl := s'.bl_len st0.who s'.n
      rw [hs]
      clear hs ho
      go_wp2_with ((apply load_by rfl _ _ rfl _ rfl); (focus (with_reducible assumption)))
      refine (rblocks_any gM gW gT s' r' st0.who W16 HN16.out.rrt HN16.out.like).mono ?_
      rintro e W17 ⟨v17, rfl, o17, E17⟩
      have HN17 := Lib.hid (HN16.out.grow E17)
      have hwho17 := (HK16.out.ext E17).stpWho
      obtain ⟨a17, n17, c17, rfl, _, r17⟩ := o17.read
      have HR17 := Lib.hid r17.ints
      clear hwho16 E17 o17 r17
      go_wp2_with ((apply load_by rfl _ _ rfl _ rfl); (focus (with_reducible assumption)))
      refine (blocks_any gP gB s' st0.who W17 HN17.out.prt HO.out).mono ?_
      rintro e W18 ⟨v18, rfl, o18, E18⟩
      have HN18 := Lib.hid (HN17.out.grow E18)
      obtain ⟨a18, n18, c18, rfl, _, r18⟩ := o18.read
      have HR18 := Lib.hid r18.ints
      have HE := Lib.hid (err_same 0 W18 (HG.out.below HN18.out.ext))
      rw [erv_zero] at HE
      have R17 := Lib.hid (HR17.out.ext E18)
      have hn1 : (s'.bl st0.who s'.n).length = n17 := R17.out.len
      have hn2 : (s'.bl st0.who s'.n).length = n18 := HR18.out.len
      obtain rfl : n17 = n18 := hn1.symm.trans hn2
      clear hwho17 E18 o18 r18 HR17
      go_wp2_with fail
      refine HE.out.mono ?_
      rintro e W19 ⟨rfl, b19⟩
      have E19 : Ext W18 W19 := b19
      clear b19
      go_wp2_with fail
      refine (sints_yes a18 a17 n17 c18 c17 (s'.bl st0.who s'.n) W19 (HR18.out.ext E19) (R17.out.ext E19) (by have := HN18.out.prt.n1; omega)).mono ?_
      rintro e W20 ⟨rfl, E20⟩
      have HN20 := Lib.hid ((HN18.out.grow E19).grow E20)
      clear E19 E20
      go_wp2_with fail
      go_roundw
      case rel => exact ⟨k + 1, s', r', by omega, by omega, by go_num, HN20.out⟩
      case measure => simp [intOf] <;> omega
set_option maxRecDepth 100000 in
theorem lifted (os : Os) (started : os.Started) (H : Type) (enc : TypeId × Value → H) :
    ReturnsInHanded {} Tryd.checked os 5 .any (fun w args => (Rows.portPlaysSpec.pre enc Tryd.prog Tryd.f5 [] false w args ∧ laidMetH Tryd.prog laid w) ∧ sizedMet enc Tryd.prog Tryd.f5 (OpenSpec.ofChange Rows.portPlaysSpec) false w args)
      (Rows.portPlaysSpec.post enc Tryd.prog Tryd.f5 false true false false) := by
  refine returnsInHanded_of_change_and (C := Tryd.checked) (X := fun w _ => laidMetH Tryd.prog laid w) (fun _ _ _ hh h => h.of_heap hh) own started (by kernel_rfl) Tryd.func5
    (ChangeSpec.witness_at (enc := enc) (C := Tryd.checked) (os := os) (X := fun w _ => laidMetH Tryd.prog laid w) false (laidWorld os) #[.int .i64 0, .slice none 0 0] 8 rfl (by kernel_rfl) (by kernel_rfl) (by kernel_rfl) (by kernel_rfl) (by kernel_rfl) (laidWorld_met os _)) ?_
  intro W base args ds gs before hval0 hW _ _ hL _
  have hval : ∀ (j : Nat) t v, Tryd.f5.params[j]? = some t → args[j]? = some v → Value.okWide Tryd.prog W .any base t v := hval0
  have hW' := hW
  obtain ⟨p, q, hA0, hV0, rfl, hfz, hnd⟩ := hW
  have hA : DataW.TrodAll enc Tryd.prog W 0 (fun _ => true) true Tryd.f5.params.toList args.toList ds p := hA0
  have hV : DataW.TrodVars enc Tryd.prog W (fun _ => true) [] gs q := hV0
  have hg := handle_of_laid hL
  rw [Tryd.params5] at hA hval
  obtain ⟨v0, vs0, d0, ds0, p0, q0, hargs, rfl, rfl, h0, r0⟩ := trodAll_cons hA
  obtain ⟨v1, vs1, d1, ds1, p1, q1, rfl, rfl, rfl, h1, r1⟩ := trodAll_cons r0
  obtain ⟨rfl, rfl, rfl⟩ := trodAll_nil r1
  obtain rfl : args = #[v0, v1] := by cases args; simp_all
  obtain ⟨rfl, rfl⟩ := vars_nil hV
  have lt0 : ∀ x ∈ p0, x.block < W.heap.size := by obtain ⟨m, hm⟩ := h0; exact DataW.trod_lt m _ _ _ hm
  have k0 := h0
  obtain ⟨x0, rfl, _, _, w0'⟩ := open_int Tryd.underlying3 (hval 0 3 v0 rfl rfl) h0
  have w0 : IsInt x0 := wf_i64 w0'
  have lt1 : ∀ x ∈ p1, x.block < W.heap.size := by obtain ⟨m, hm⟩ := h1; exact DataW.trod_lt m _ _ _ hm
  have k1 := h1
  obtain ⟨a1, n1, c1, rfl⟩ := okWide_slice Tryd.underlying22 (hval 1 22 v1 rfl rfl)
  obtain ⟨l1, w1⟩ := open_steps h1
  clear hA0 hval0
  refine (walk x0 a1 n1 c1 l1 W hg w0 w1).mono fun e W' ⟨he, bel⟩ => ?_
  subst he
  exact ⟨_, rfl, _, _, _, [], _, [], hW', trodAll_mk1 (shut_bool Tryd.underlying4 _), (trodAll_cons_mk (Below.trod laidOut (by kernel_rfl) (of_decide_eq_true (by kernel_rfl)) k0 bel lt0) (trodAll_cons_mk (Below.trod laidOut (by kernel_rfl) (of_decide_eq_true (by kernel_rfl)) k1 bel lt1) trodAll_mk0)), rfl, bel.frame _, fun h => by cases h⟩

theorem over : Rows.portPlaysRow.holds Tryd.pinned (OpenSpec.ofChange Rows.portPlaysSpec) :=
  OpenClaim.holds_of_wide 5 Tryd.f5 rfl rfl rfl rfl rfl rfl rfl ⟨rfl, rfl, rfl, rfl, rfl⟩ rfl rfl rfl rfl rfl (by kernel_rfl) Tryd.func5 (by kernel_rfl)
    (of_decide_eq_true (by kernel_rfl)) (by unfold Func.isWrapper; first | (rw [if_pos (by decide +kernel)]; kernel_rfl) | (rw [if_neg (by decide +kernel)]; exact ⟨rfl, rfl⟩))
    (fun os started H enc _ => lifted os started H enc)

/-- THE STATEMENT. -/
theorem proved : Rows.PortPlaysCardSaid :=
  Claim7.holds_tied_plain_at .later [] _ _ _ _
    over (fun _ h => by cases h) (by kernel_rfl) (fun _ h => by cases h) portPlays_row_tie rfl ⟨rfl, rfl⟩ (by kernel_rfl) rfl
    (fun f fn hf hfn => by
      obtain rfl : f = 5 := Option.some.inj ((show Tryd.prog.funcNamed "gangplank/gangplanklaw2.PortPlays" = some 5 by kernel_rfl).symm.trans hf) |>.symm
      obtain rfl : fn = Tryd.f5 := (Option.some.inj (Tryd.func5.symm.trans hfn)).symm
      exact ⟨by kernel_rfl, fun j t ht => by
        rw [Tryd.params5] at ht
        have hall : ((#[3, 22] : Array Nat).all fun t => !Tryd.prog.wantsStandIn t) = true := by kernel_rfl
        have := Array.all_eq_true'.1 hall t (Array.mem_of_getElem? ht)
        show Tryd.prog.wantsStandIn t = false
        simpa using this⟩)
    (by kernel_rfl)
#print axioms proved
end Go.Proofs.YtapmbjmcbllalaaDoor.portPlays
