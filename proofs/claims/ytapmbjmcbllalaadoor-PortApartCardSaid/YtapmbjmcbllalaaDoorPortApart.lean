/- The law PortApart: a port that is taken is taken once, and belongs to who took it, till it is given back; all ports of one block that are taken belong to one; as many as are taken are not free. Conditions: the row's own: errors.errorType holds its handle (tied). -/
import Derived.Test.YtapmbjmcbllalaaDoorFrameD
import Derived.Test.YtapmbjmcbllalaaDoorStp
import Derived.Test.YtapmbjmcbllalaaDoorPack6s
import Derived.Test.YtapmbjmcbllalaaDoorPortA
import Derived.Test.YtapmbjmcbllalaaDoorRowL
import Derived.Test.YtapmbjmcbllalaaDoorSame
import Derived.Test.YtapmbjmcbllalaaDoorTie
import Derived.Test.YtapmbjmcbllalaaDoorCards
import Derived.SevenTiedAt
import Derived.Deep.DeepCutAuto
namespace Go.Proofs.YtapmbjmcbllalaaDoor.portApart
open Go.ChangeShapes Go.WideShapes Go.ChangeAt Go.RowKit

def s1 : Six := ⟨1, 0, 0, 0, 0, 0, 0, 0⟩
def s2 : Six := ⟨2, 0, 0, 0, 0, 0, 0, 0⟩
theorem f1 : (PS.zero 1).takeQ s1 = 0 ∧ (PS.zero 1).takeN s1 = 1024 := by decide +kernel
theorem f2 : ((PS.zero 1).take s1).takeQ s2 = 3 := by decide +kernel
/-- The ports, and whose they are. -/
def pN (q : List (Nat × Six)) : List Int := q.map fun x => 1024 + (x.1 : Int)
def pW (q : List (Nat × Six)) : List Six := q.map (·.2)
/-- All that is known between two steps. -/
structure Now (w0 w : World) (gP gB B n L : Nat) (s : PS) (q : List (Nat × Six)) (vp vw : Value) : Prop where
  n : s.n = n
  pa : PA s q
  len : q.length ≤ L
  prt : Prt w gP gB s
  lo : gP < B ∧ gB < B
  size : B ≤ w.heap.size
  base : w0.heap.size ≤ B
  new : w0.heap.size ≤ gB
  ps : KI.Own 3 w B vp (pN q)
  ws : KS.Own 31 w B vw (pW q)
  ne : ∀ k, vp.ownBlock = some k → vw.ownBlock ≠ some k
  ext : Below w0.heap.size w0 w
theorem Now.more {w0 w : World} {gP gB B n L L' : Nat} {s : PS} {q : List (Nat × Six)} {vp vw : Value} (h : Now w0 w gP gB B n L s q vp vw) (hl : L ≤ L') : Now w0 w gP gB B n L' s q vp vw :=
  { h with len := Nat.le_trans h.len hl }
theorem Now.grow {w0 w w' : World} {gP gB B n L : Nat} {s : PS} {q : List (Nat × Six)} {vp vw : Value} (h : Now w0 w gP gB B n L s q vp vw) (e : Ext w w') : Now w0 w' gP gB B n L s q vp vw :=
  { h with prt := h.prt.ext e, size := Nat.le_trans h.size e.size, ps := h.ps.ext e, ws := h.ws.ext e, ext := h.ext.trans (e.mono (Nat.le_trans h.base h.size)) }
theorem rowedP {w w' : World} {gP gB : Nat} {s : PS} {r : Option Nat} (h : Prt w gP gB s) (k : w.grownBy w' r) (h0 : some gP ≠ r) (h1 : some gB ≠ r) : Prt w' gP gB s :=
  ⟨(k.block _ h.ptr.lt h0).trans h.ptr, (k.block _ h.row.lt h1).trans h.row, h.ne, h.n0, h.n1⟩
theorem rowedB {w w' : World} {g : Nat} {t : TypeId} {cs : Array Value} {r : Option Nat} (h : Blk w g t cs) (k : w.grownBy w' r) (h0 : some g ≠ r) : Blk w' g t cs := (k.block _ h.lt h0).trans h
theorem pN_len (q : List (Nat × Six)) : (pN q).length = q.length := by simp [pN]
theorem pW_len (q : List (Nat × Six)) : (pW q).length = q.length := by simp [pW]
theorem pN_at {q : List (Nat × Six)} {k : Nat} {x : Nat × Six} (h : q[k]? = some x) : (pN q)[k]? = some (1024 + (x.1 : Int)) := by unfold pN; rw [List.getElem?_map, h]; rfl
theorem pW_at {q : List (Nat × Six)} {k : Nat} {x : Nat × Six} (h : q[k]? = some x) : (pW q)[k]? = some x.2 := by unfold pW; rw [List.getElem?_map, h]; rfl
theorem split_at {q : List (Nat × Six)} {k : Nat} {x : Nat × Six} (h : q[k]? = some x) : q = q.take k ++ x :: q.drop (k + 1) := by
  obtain ⟨hk, hx⟩ := List.getElem?_eq_some_iff.1 h
  have := List.drop_eq_getElem_cons hk
  rw [hx] at this
  rw [← this, List.take_append_drop]
theorem pN_cut (q : List (Nat × Six)) (k : Nat) : pN (q.take k ++ q.drop (k + 1)) = (pN q).take k ++ (pN q).drop (k + 1) := by
  unfold pN; rw [List.map_append, List.map_take, List.map_drop]
theorem pW_cut (q : List (Nat × Six)) (k : Nat) : pW (q.take k ++ q.drop (k + 1)) = (pW q).take k ++ (pW q).drop (k + 1) := by
  unfold pW; rw [List.map_append, List.map_take, List.map_drop]
/-- Behind a call that has written into the ports' own block alone. -/
theorem Now.wrote {w0 w w' : World} {gP gB B n L : Nat} {s : PS} {q : List (Nat × Six)} {vp vw : Value} (h : Now w0 w gP gB B n L s q vp vw) (hg : w.grownBy w' (some gB)) :
    KI.Own 3 w' B vp (pN q) ∧ KS.Own 31 w' B vw (pW q) ∧ Below w0.heap.size w0 w' ∧ B ≤ w'.heap.size ∧ (∀ k, vp.ownBlock = some k → B ≤ k ∧ k < w.heap.size) ∧ (∀ k, vw.ownBlock = some k → B ≤ k ∧ k < w.heap.size) :=
  ⟨h.ps.rowed hg (fun k hk he => by have := (h.ps.lt k hk).1; have := h.lo.2; cases he; omega), h.ws.rowed hg (fun k hk he => by have := (h.ws.lt k hk).1; have := h.lo.2; cases he; omega), Below.only h.ext hg (Nat.le_trans h.base h.size) h.new, Nat.le_trans h.size hg.size, h.ps.lt, h.ws.lt⟩
set_option maxRecDepth 100000 in
set_option maxHeartbeats 4000000 in
theorem walk (x0 : Int) (a1 : Option Addr) (n1 c1 : Nat) (l1 : List Stp) (w : World) (hg : Handle w) (w0 : IsInt x0) (w1 : IsSteps w a1 n1 c1 l1) :
    Calls Tryd.prog 3 #[.int .i64 x0, .slice a1 n1 c1] w fun e w' => e = .returned (.bool true) ∧ Below w.heap.size w w' := by
  obtain ⟨hl, hnc, hcm, his⟩ := w1
  have HL := Lib.hid hl
  have HI := Lib.hid his
  have HG := Lib.hid hg
  clear hl his hg
  go_enter Tryd.func3, Tryd.ntmps3
  go_wp2_with fail
  refine (new_ok 1 w (by omega) (by omega)).mono ?_
  rintro e W1 ⟨gz, gy, rfl, P1, E1, _, hy⟩
  go_wp2_with fail
  refine (take_any gz gy (PS.zero 1) s1 W1 P1).mono ?_
  rintro e W2 ⟨rfl, P2, g2⟩
  rw [f1.1, f1.2, erv_zero]
  have B2 : Below w.heap.size w W2 := Below.only E1 g2 E1.size hy
  clear P1 E1 g2
  go_wp2_with fail
  refine (take_any gz gy ((PS.zero 1).take s1) s2 W2 P2).mono ?_
  rintro e W3 ⟨rfl, P3, g3⟩
  have B3 : Below w.heap.size w W3 := Below.only B2 g3 B2.size hy
  rw [f2]
  clear P2 P3 g3 B2
  go_wp2_with fail
  refine (err_same 3 _ (HG.out.below B3)).mono ?_
  rintro e W4 ⟨rfl, b4⟩
  have B4 : Below w.heap.size w W4 := B3.trans (b4.mono B3.size)
  rw [erv_ne (by decide)]
  unfold errv
  clear B3 b4
  go_wp2_with fail
  by_cases hx : x0 < 1 ∨ 16 < x0
  · refine (new_no x0 W4 hx).mono ?_
    rintro e W5 ⟨rfl, rfl⟩
    unfold errv
    by_cases h1 : x0 < 1
    · have d1 : decide (x0 < 1) = true := decide_eq_true h1
      clear hx
      go_wp2_with fail
      go_ret
      exact ⟨rfl, B4⟩
    · have d1 : decide (x0 < 1) = false := decide_eq_false h1
      have d2 : decide (16 < x0) = true := decide_eq_true (by omega)
      clear hx
      go_wp2_with fail
      go_ret
      exact ⟨rfl, B4⟩
  obtain ⟨n, rfl⟩ : ∃ n : Nat, x0 = (n : Int) := ⟨x0.toNat, by omega⟩
  have hn0 : 1 ≤ n := by omega
  have hn1 : n ≤ 16 := by omega
  clear hx
  refine (new_ok n W4 hn0 hn1).mono ?_
  rintro e W5 ⟨gP, gB, rfl, P5, E5, _, hnB⟩
  have N5 : Now w W5 gP gB W5.heap.size n 0 (PS.zero n) [] (.slice none 0 0) (.slice none 0 0) :=
    ⟨rfl, PA.zero n, Nat.le_refl _, P5, ⟨P5.ptr.lt, P5.row.lt⟩, Nat.le_refl _, Nat.le_trans B4.size E5.size, Nat.le_trans B4.size hnB, Kin.Own.nil _ _, Kin.Own.nil _ _, (fun _ h => by cases h), B4.trans (E5.mono B4.size)⟩
  generalize W5.heap.size = B at *
  clear B4 P5 E5
  go_wp2_with fail
  go_loopw [13, 14, 15] (fun vp vw i wr => ∃ (k : Nat) (s : PS) (q : List (Nat × Six)), k ≤ n1 ∧ k ≤ 80 ∧ i = .int .i64 k ∧ Now w wr gP gB B n k s q vp vw) (fun _ _ i _ => n1 - (intOf i).toNat)
  case atStart => exact ⟨0, PS.zero n, [], Nat.zero_le _, by omega, rfl, N5⟩
  case round =>
    clear N5
    obtain ⟨k, s, q, hk, hk8, rfl, N⟩ := hrel
    have HN := Lib.hid N
    by_cases hend : k = n1 ∨ k = 80
    · have hE := N.ext
      by_cases hkn : k = n1
      · have d1 : decide ((k : Int) < (n1 : Int)) = false := decide_eq_false (by omega)
        clear hend
        go_wp2_with fail
        go_ret
        exact ⟨rfl, hE⟩
      · have d1 : decide ((k : Int) < (n1 : Int)) = true := decide_eq_true (by omega)
        have d2 : decide ((k : Int) < 80) = false := decide_eq_false (by omega)
        clear hend
        go_wp2_with fail
        go_ret
        exact ⟨rfl, hE⟩
    have hkn : k < n1 := by omega
    have hk80 : k < 80 := by omega
    clear hend
    obtain ⟨st0, hst0⟩ : ∃ st0, l1[k]? = some st0 := ⟨_, List.getElem?_eq_getElem (by rw [HL.out.1]; omega)⟩
    have hIs := HI.out st0 (List.mem_of_getElem? hst0)
    obtain ⟨ba, oa, rfl, _, _⟩ := HL.out.at N.ext (by omega)
    have hkz : (k : Int) < (n1 : Int) := by omega
    have hk80' : (k : Int) < 80 := by omega
    have lda := (HL.out.ext N.ext).stp hst0
    have KZ := Blk.new wr 39 #[.int .i64 0, .int .i64 0, .int .i64 0, .int .i64 0, .int .i64 0, .int .i64 0, .int .i64 0, .int .i64 0, .int .i64 0, .int .i64 0, .int .i64 0, .int .i64 0, .int .i64 0, .int .i64 0, .int .i64 0, .int .i64 0, .int .i64 0, .int .i64 0, .int .i64 0, .int .i64 0, .int .i64 0, .int .i64 0, .int .i64 0, .int .i64 0, .int .i64 0, .int .i64 0, .int .i64 0, .int .i64 0, .int .i64 0, .int .i64 0, .int .i64 0]
    have sta := KZ.stpSet st0
    have K5 := KZ.row st0.cells
    have E5 : Ext wr _ := ((Ext.refl wr).alloc (.cells #[.int .i64 0, .int .i64 0, .int .i64 0, .int .i64 0, .int .i64 0, .int .i64 0, .int .i64 0, .int .i64 0, .int .i64 0, .int .i64 0, .int .i64 0, .int .i64 0, .int .i64 0, .int .i64 0, .int .i64 0, .int .i64 0, .int .i64 0, .int .i64 0, .int .i64 0, .int .i64 0, .int .i64 0, .int .i64 0, .int .i64 0, .int .i64 0, .int .i64 0, .int .i64 0, .int .i64 0, .int .i64 0, .int .i64 0, .int .i64 0, .int .i64 0] 39)).row (k := wr.heap.size) (Nat.le_refl _) st0.cells
    clear KZ N
    go_upto_region 18 with (first | ((apply load_by rfl _ _ rfl _ rfl); (focus (with_reducible assumption))) | ((apply store_by rfl _ _ _ rfl _ rfl); (focus (with_reducible assumption)); (focus rfl)))
    refine at_worldE (fun W => Now w W gP gB B n k s q u13 u14 ∧ Blk W wr.heap.size 39 st0.cells) ⟨HN.out.grow E5, K5⟩ ?_
    clear lda sta K5 E5
    rintro W6 ⟨N6, K6⟩
    have hz6 := N6.size
    have hsz := HN.out.size
    have hvp := fun k hk => (HN.out.ps.lt k hk).2
    have hvw := fun k hk => (HN.out.ws.lt k hk).2
    generalize wr.heap.size = g6 at *
    have HN6 := Lib.hid N6
    have HK6 := Lib.hid K6
    obtain ⟨cw, cn, _, _⟩ := K6.stpNums
    have hwho := K6.stpWho
    have hor : st0.what < 2 ∨ ¬ st0.what < 2 := by omega
    clear N6 K6
    go_upto_if 85 with (fail)
    go_cut [13, 14] (fun vp vw wc => ∃ (s : PS) (q : List (Nat × Six)), Now w wc gP gB B n (k + 1) s q vp vw)
    case first =>
      rcases hor with hw | hw
      · go_wp2_with ((apply load_by rfl _ _ rfl _ rfl); (focus (with_reducible assumption)))
        refine (take_any gP gB s st0.who W6 HN6.out.prt).mono ?_
        rintro e W7 ⟨rfl, P7, g7⟩
        obtain ⟨o7, ow7, b7, z7, l7, m7⟩ := HN6.out.wrote g7
        by_cases hq : s.takeQ st0.who = 0
        · obtain ⟨pa, tn, glt, sn⟩ := HN6.out.pa.take hq
          rw [hq, tn, erv_zero]
          have K7 := HK6.out.only g7 (by have := HN6.out.lo.2; omega)
          have hlen := HN6.out.len
          have HPA := Lib.hid (And.intro pa sn)
          have g7' := g7.size
          clear pa sn tn hq hw g7
          go_wp2_with (at_builtin; refine Halt.out ?_)
          refine Halt.mk ?_
          refine appIL rfl _ _ rfl B u13 (pN q) rfl (o7.ext ((Ext.refl W7).alloc _)) _ _ _ [1024 + (PA.gets s st0.who : Int)] rfl (Ints.see (Blk.new W7 _ _).ints1) (by rw [pN_len]; simp; omega) (by simp; omega) ?_
          intro v8 W8 o8 g8 b8 l8
          have hgP := HN6.out.lo.1
          have hgB := HN6.out.lo.2
          have hz8 := g8.size
          have hz7 := World.size_alloc W7 (.cells #[.int .i64 (1024 + (PA.gets s st0.who : Int))] 3)
          have P8 := rowedP (P7.alloc _) g8 (fun he => by have := (l7 gP he.symm).1; omega) (fun he => by have := (l7 gB he.symm).1; omega)
          have K8 := rowedB (K7.alloc _) g8 (fun he => by have := hvp g6 he.symm; omega)
          have ow8 : KS.Own 31 W8 B u14 (pW q) := (ow7.ext ((Ext.refl W7).alloc _)).rowed g8 (fun k hk he => HN6.out.ne k he.symm hk)
          have ne8 : ∀ k, v8.ownBlock = some k → u14.ownBlock ≠ some k ∧ k ≤ W7.heap.size + 1 := fun k hk => by
            rcases l8 with he | he
            · rw [he] at hk
              exact ⟨HN6.out.ne k hk, by have := (l7 k hk).2; have := g7'; omega⟩
            · rw [he, hz7] at hk
              cases hk
              exact ⟨fun h => by have := (m7 _ h).2; have := g7'; omega, Nat.le_refl _⟩
          have b8' : Below w.heap.size w W8 := (b7.alloc (Nat.le_trans HN6.out.base z7) _).trans (b8.mono HN6.out.base)
          have ld : (Instr.loadAt 31 (.pointer (some ⟨g6, 1, none⟩))).run Tryd.prog W8 = .ok (.agg #[.int .i64 st0.who.x0, .int .i64 st0.who.x1, .int .i64 st0.who.x2, .int .i64 st0.who.x3, .int .i64 st0.who.x4, .int .i64 st0.who.x5, .int .i64 st0.who.x6, .int .i64 st0.who.x7]) W8 := K8.stpWho
          clear K7 g8 b8 l8 P7 ow7 o7 b7
          go_wp2_with (first | ((apply load_by rfl _ _ rfl _ rfl); (focus (with_reducible assumption))) | (at_builtin; refine Halt.out ?_))
          refine Halt.mk ?_
          refine appSL rfl _ _ rfl B u14 (pW q) rfl (ow8.ext ((Ext.refl W8).alloc _)) _ _ _ [st0.who] rfl (Blk.sixes1 (s := st0.who) (Blk.new W8 _ _)) (by rw [pW_len]; omega) (by simp; omega) ?_
          intro v9 W9 o9 g9 b9 l9
          have hz8' := World.size_alloc W8 (.cells #[.int .i64 st0.who.x0, .int .i64 st0.who.x1, .int .i64 st0.who.x2, .int .i64 st0.who.x3, .int .i64 st0.who.x4, .int .i64 st0.who.x5, .int .i64 st0.who.x6, .int .i64 st0.who.x7] 31)
          obtain ⟨pa, sn⟩ := HPA.out
          have N9 : Now w W9 gP gB B n (k + 1) (s.take st0.who) (q ++ [(PA.gets s st0.who, st0.who)]) v8 v9 := by
            refine ⟨sn.trans HN6.out.n, pa, by simp; omega, rowedP (P8.alloc _) g9 (fun he => by have := (m7 gP he.symm).1; omega) (fun he => by have := (m7 gB he.symm).1; omega), HN6.out.lo, ?_, HN6.out.base, HN6.out.new, ?_, ?_, fun j hj => ?_, ?_⟩
            · have := g9.size; omega
            · have := (o8.ext ((Ext.refl W8).alloc (.cells #[.int .i64 st0.who.x0, .int .i64 st0.who.x1, .int .i64 st0.who.x2, .int .i64 st0.who.x3, .int .i64 st0.who.x4, .int .i64 st0.who.x5, .int .i64 st0.who.x6, .int .i64 st0.who.x7] 31))).rowed g9 (fun j hj he => (ne8 j hj).1 he.symm)
              simpa [pN] using this
            · simpa [pW] using o9
            · rcases l9 with he | he
              · rw [he]; exact (ne8 j hj).1
              · rw [he, hz8']
                have := (ne8 j hj).2
                intro h
                cases h
                omega
            · exact (b8'.alloc (by have := HN6.out.base; omega) _).trans (b9.mono HN6.out.base)
          have HN9 := Lib.hid N9
          clear N9 g9 b9 l9 o9 P8 K8 ow8 ne8 b8' o8 ld
          go_wp2_with fail
          go_meet
          exact ⟨_, _, HN9.out⟩
        · rw [erv_ne hq]
          have hs : s.take st0.who = s := by unfold PS.take; rw [if_neg hq]
          rw [hs] at P7
          unfold errv
          clear hq hw
          go_wp2_with fail
          go_meet
          exact ⟨s, q, HN6.out.n, HN6.out.pa, Nat.le_succ_of_le HN6.out.len, P7, HN6.out.lo, z7, HN6.out.base, HN6.out.new, o7, ow7, HN6.out.ne, b7⟩
      · obtain ⟨a13, c13, rfl, hc13, r13, l13, p13⟩ := HN6.out.ps.open
        obtain ⟨a14, c14, rfl, hc14, r14, l14, p14⟩ := HN6.out.ws.open
        rw [pN_len] at hc13 r13 l13 HN6 ⊢
        rw [pW_len] at hc14 r14 l14 HN6 ⊢
        by_cases hL : q.length = 0
        · have d1 : decide ((0 : Int) < (q.length : Int)) = false := decide_eq_false (by omega)
          have d2 : decide (0 < q.length) = false := decide_eq_false (by omega)
          clear hc13 r13 l13 p13 hc14 r14 l14 p14 hL hvp hvw
          go_wp2_with fail
          go_meet
          exact ⟨s, q, HN6.out.more (Nat.le_succ k)⟩
        · have d1 : decide ((0 : Int) < (q.length : Int)) = true := decide_eq_true (by omega)
          have d2 : decide (0 < q.length) = true := decide_eq_true (by omega)
          have hlen := HN6.out.len
          go_wp2_with fail
          refine (pick_any st0.n (q.length : Int) W6 hIs.n ⟨by omega, by omega⟩).mono ?_
          rintro e W7 ⟨jI, rfl, ⟨j0, j1⟩, rfl⟩
          obtain ⟨j, rfl⟩ := Int.eq_ofNat_of_zero_le j0
          have hj : j < q.length := by omega
          obtain ⟨x, hx⟩ : ∃ x, q[j]? = some x := ⟨_, List.getElem?_eq_getElem hj⟩
          obtain ⟨bp, op, rfl, _, cellp⟩ := r13.ints.at (by omega)
          obtain ⟨bw, ow, rfl, _, _⟩ := r14.at (Ext.refl W6) (by omega)
          have cj := cellp j hj
          have e13 : (pN q).getD j 0 = 1024 + (x.1 : Int) := by rw [List.getD_eq_getElem?_getD, pN_at hx]; rfl
          rw [e13] at cj
          have hpa : PA s (q.take j ++ x :: q.drop (j + 1)) := by have := HN6.out.pa; rwa [split_at hx] at this
          obtain ⟨_, _, hx8⟩ := HN6.out.pa.one hx
          obtain ⟨pa, hhas, sn⟩ := PA.back hpa
          have hsn := HN6.out.n
          have hQ : s.giveQ (1024 + (x.1 : Int)) = 0 := by unfold PS.giveQ; rw [if_pos hhas]
          have HPA := Lib.hid (And.intro pa sn)
          have HR13 := Lib.hid r13
          have HR14 := Lib.hid r14
          clear hpa pa sn hhas e13 cellp j0 hx hL hw r13 r14
          go_wp2_with fail
          refine (give_any gP gB s (1024 + (x.1 : Int)) W6 HN6.out.prt ⟨by omega, by omega⟩).mono ?_
          rintro e W8 ⟨rfl, P8, g8⟩
          rw [hQ, erv_zero]
          obtain ⟨_, _, b8, z8, _, _⟩ := HN6.out.wrote g8
          have hgB := HN6.out.lo.2
          have hgP := HN6.out.lo.1
          have hbp := p13 _ rfl
          have hbw := p14 _ rfl
          have r8 := HR13.out.only g8 (fun p hp => by cases hp; show bp ≠ gB; have h1 : B ≤ bp := hbp.1; omega)
          have rw8 := HR14.out.only g8 (fun p hp => by cases hp; show bw ≠ gB; have h1 : B ≤ bw := hbw.1; omega)
          have hs1 := headK KI 34 3 Tryd.elemInts Tryd.underlying34 Tryd.sizeIntK bp op q.length c13 j (j : Int) rfl (by omega)
          clear cj g8 hQ
          go_wp2_with (at_builtin; refine Halt.out ?_)
          clear hs1
          refine Halt.mk ?_
          refine appIL rfl _ _ rfl W8.heap.size _ [] rfl (Kin.Own.nil _ _) (some ⟨bp, op, none⟩) j c13 ((pN q).take j) rfl (r8.take j (by omega)) (by simp; omega) (Nat.le_refl _) ?_
          intro v9 W9 o9 _ b9 _
          rw [List.nil_append] at o9
          have E9 : Ext W8 W9 := b9
          obtain ⟨AA, hAA, hsl⟩ := tailK KI 34 3 Tryd.elemInts Tryd.underlying34 Tryd.sizeIntK (some ⟨bp, op, none⟩) q.length c13 (j + 1) ((j : Int) + 1) (by omega) (by omega) hc13
          have hA9 := hAA W9 _ (r8.ext E9)
          clear hAA
          have wj : IntKind.i64.wrap ((j : Int) + 1) = (j : Int) + 1 := IntWalk.i64_in _ (by omega)
          go_wp2_with (at_builtin; refine Halt.out ?_)
          clear hsl
          refine Halt.mk ?_
          refine appIL rfl _ _ rfl W8.heap.size v9 _ rfl o9 AA (q.length - (j + 1)) _ ((pN q).drop (j + 1)) rfl hA9 (by rw [List.length_take]; omega) E9.size ?_
          intro v10 W10 o10 _ b10 _
          have E10 : Ext W8 W10 := Below.trans b9 b10
          clear o9 b9 E9 hA9 b10
          have hs2 := headK KS 35 31 Tryd.elemSixes Tryd.underlying35 Tryd.sizeSixK bw ow q.length c14 j (j : Int) rfl (by omega)
          go_wp2_with (at_builtin; refine Halt.out ?_)
          clear hs2
          refine Halt.mk ?_
          refine appSL rfl _ _ rfl W10.heap.size _ [] rfl (Kin.Own.nil _ _) (some ⟨bw, ow, none⟩) j c14 ((pW q).take j) rfl ((rw8.ext E10).take j (by omega)) (by simp; omega) (Nat.le_refl _) ?_
          intro v11 W11 o11 _ b11 _
          rw [List.nil_append] at o11
          have E11 : Ext W10 W11 := b11
          obtain ⟨AB, hAB, hsl2⟩ := tailK KS 35 31 Tryd.elemSixes Tryd.underlying35 Tryd.sizeSixK (some ⟨bw, ow, none⟩) q.length c14 (j + 1) ((j : Int) + 1) (by omega) (by omega) hc14
          have hB11 := hAB W11 _ ((rw8.ext E10).ext E11)
          clear hAB
          go_wp2_with (at_builtin; refine Halt.out ?_)
          clear hsl2
          refine Halt.mk ?_
          refine appSL rfl _ _ rfl W10.heap.size v11 _ rfl o11 AB (q.length - (j + 1)) _ ((pW q).drop (j + 1)) rfl hB11 (by rw [List.length_take]; omega) E11.size ?_
          intro v12 W12 o12 _ b12 _
          have E12 : Ext W10 W12 := Below.trans b11 b12
          have N12 : Now w W12 gP gB B n (k + 1) (s.back (1024 + (x.1 : Int))) (q.take j ++ q.drop (j + 1)) v10 v12 := by
            obtain ⟨pa, sn⟩ := HPA.out
            refine ⟨sn.trans HN6.out.n, pa, ?_, (P8.ext E10).ext E12, HN6.out.lo, ?_, HN6.out.base, HN6.out.new, ?_, ?_, fun m hm h => ?_, ?_⟩
            · rw [List.length_append, List.length_take, List.length_drop]; omega
            · have := E10.size; have := E12.size; omega
            · rw [pN_cut]; exact (o10.ext E12).mono z8
            · rw [pW_cut]; exact o12.mono (Nat.le_trans z8 E10.size)
            · have h1 := (o10.lt m hm).2; have h2 := (o12.lt m h).1; omega
            · exact (b8.trans (E10.mono (Nat.le_trans HN6.out.base z8))).trans (E12.mono (Nat.le_trans (Nat.le_trans HN6.out.base z8) E10.size))
          have HN12 := Lib.hid N12
          clear N12 o10 o11 o12 b11 b12 E10 E11 E12 hB11 r8 rw8 P8 b8 z8
          go_wp2_with fail
          go_meet
          exact ⟨_, _, HN12.out⟩
    obtain ⟨s', q', N7⟩ := hcut
    clear HN hwho hor cw cn hvp hvw hIs hst0
    obtain ⟨a13, c13, rfl, hc13, r13, l13, p13⟩ := N7.ps.open
    obtain ⟨a14, c14, rfl, hc14, r14, l14, p14⟩ := N7.ws.open
    have HN7 := Lib.hid N7
    rw [pN_len] at hc13 r13 l13 HN7 ⊢
    rw [pW_len] at hc14 r14 l14 HN7 ⊢
    have hfr : s'.free = (n : Int) * 8 - (q'.length : Int) := by unfold PS.free; rw [N7.pa.many, N7.n]; omega
    have hlen := N7.len
    have wn : IntKind.i64.wrap ((n : Int) * 8) = (n : Int) * 8 := IntWalk.i64_in _ (by omega)
    have wl : IntKind.i64.wrap ((n : Int) * 8 - (q'.length : Int)) = (n : Int) * 8 - (q'.length : Int) := IntWalk.i64_in _ (by omega)
    clear l13 p13 l14 p14 N7
    go_wp2_with fail
    refine (free_any gP gB s' wc HN7.out.prt).mono ?_
    rintro e W8 ⟨rfl, E8⟩
    rw [hfr]
    have HN8 := Lib.hid (HN7.out.grow E8)
    have R13 := Lib.hid (r13.ext E8)
    have R14 := Lib.hid (r14.ext E8)
    clear hfr r13 r14 E8 HN7
    go_wp2_with fail
    go_loopw [22] (fun i wr => ∃ k2 : Nat, k2 ≤ q'.length ∧ i = .int .i64 k2 ∧ Ext W8 wr) (fun i _ => q'.length - (intOf i).toNat)
    case atStart => exact ⟨0, Nat.zero_le _, rfl, Ext.refl W8⟩
    case round =>
      obtain ⟨k2, hk2, rfl, E9⟩ := hrel
      by_cases hlt : k2 < q'.length
      case neg =>
        have d1 : decide ((k2 : Int) < (q'.length : Int)) = false := decide_eq_false (by omega)
        have d2 : decide (k2 < q'.length) = false := decide_eq_false hlt
        have HE9 := Lib.hid E9
        have wk : IntKind.i64.wrap ((k : Int) + 1) = (k : Int) + 1 := IntWalk.i64_in _ (by omega)
        clear E9
        go_wp2_with fail
        go_roundw
        case rel => exact ⟨k + 1, s', q', by omega, by omega, by go_num, HN8.out.grow HE9.out⟩
        case measure => simp [intOf] <;> omega
      have d1 : decide ((k2 : Int) < (q'.length : Int)) = true := decide_eq_true (by omega)
      have d2 : decide (k2 < q'.length) = true := decide_eq_true hlt
      obtain ⟨x, hx⟩ : ∃ x, q'[k2]? = some x := ⟨_, List.getElem?_eq_getElem hlt⟩
      obtain ⟨hhas, hwho, hx8⟩ := HN8.out.pa.one hx
      have hsn := HN8.out.n
      rw [hsn] at hx8
      have hQ : s'.giveQ (1024 + (x.1 : Int)) = 0 := by unfold PS.giveQ; rw [if_pos hhas]
      obtain ⟨bp, op, rfl, hbp, cellp⟩ := (R13.out.ext E9).ints.at (by omega)
      obtain ⟨bw, ow, rfl, hbw, _⟩ := R14.out.at E9 (by omega)
      have cj := cellp k2 hlt
      have e13 : (pN q').getD k2 0 = 1024 + (x.1 : Int) := by rw [List.getD_eq_getElem?_getD, pN_at hx]; rfl
      rw [e13] at cj
      have HOW := Lib.hid (owner_any gP gB s' (1024 + (x.1 : Int)) wr (HN8.out.grow E9).prt ⟨by omega, by omega⟩)
      rw [hwho, hQ, erv_zero] at HOW
      have HX := Lib.hid hx
      have hpw := pW_at hx
      obtain ⟨P, hP⟩ : ∃ P : Int, 1024 + (x.1 : Int) = P := ⟨_, rfl⟩
      have dP1 : decide (P < 1024) = false := decide_eq_false (by omega)
      have wP : IntKind.i64.wrap (1024 + (n : Int) * 8) = 1024 + (n : Int) * 8 := IntWalk.i64_in _ (by omega)
      have dP2 : decide (1024 + (n : Int) * 8 ≤ P) = false := decide_eq_false (by omega)
      rw [hP] at cj HOW
      obtain ⟨O, hO⟩ : ∃ O, x.2 = O := ⟨_, rfl⟩
      rw [hO] at HOW hpw
      have HP := Lib.hid hP
      have HO := Lib.hid hO
      have HE9 := Lib.hid E9
      clear hP hO hx hhas hwho hQ e13 cellp E9
      go_wp2_with fail
      refine HOW.out.mono ?_
      rintro e W10 ⟨rfl, E10⟩
      have KZ := Blk.new W10 31 zc6
      have st := KZ.store (ty := 31) (cs := O.cells) rfl Tryd.size6 (by simp [Six.cells, Value.oneCell'])
      have K11 := KZ.row O.cells
      have E11 : Ext W8 _ := ((HE9.out.trans E10).alloc (.cells zc6 31)).row (k := W10.heap.size) (by have := HE9.out.size; have := E10.size; omega) O.cells
      clear KZ HOW cj E10
      go_upto_region 41 with (((apply store_by rfl _ _ _ rfl _ rfl); (focus (with_reducible assumption)); (focus rfl)))
      refine at_worldE (fun W => Ext W8 W ∧ Blk W W10.heap.size 31 O.cells) ⟨E11, K11⟩ ?_
      clear st K11 E11
      rintro W11 ⟨E11, K11⟩
      have cj : W11.cell? ⟨bp, op + k2, none⟩ = some (.int .i64 P) := by
        obtain ⟨_, _, hb, _, hc⟩ := (R13.out.ext E11).ints.at (by omega)
        cases hb
        have := hc k2 hlt
        rw [List.getD_eq_getElem?_getD, pN_at HX.out] at this
        rw [this]
        exact congrArg _ (congrArg _ HP.out)
      have la := Lib.hid (fun m => (K11.drewN m).six0)
      have lb := Lib.hid (fun m => (R14.out.ext (E11.drewN m)).six hpw)
      have lc := fun W => six_same O W
      have hk2 : (k2 : Int) < (q'.length : Int) := by omega
      have HE11 := Lib.hid E11
      clear E11 K11 HE9
      go_wp2_with fail
      refine wp_region_quiet_lit (by kernel_rfl) (by kernel_rfl) ?_; repeat (go_big_quiet_step (fail))
      go_big_quiet_want; refine quiet_ld _ _ rfl rfl (by rintro _ ⟨m, rfl⟩; exact la.out m) ?_; go_big_quiet_on; (try simp only [Act.put, List.setIfInBounds_toArray, List.set_cons_zero, List.set_cons_succ]); repeat (go_big_quiet_step (fail))
      go_big_quiet_want; refine quiet_ld _ _ rfl rfl (by rintro _ ⟨m, rfl⟩; exact lb.out m) ?_; go_big_quiet_on; (try simp only [Act.put, List.setIfInBounds_toArray, List.set_cons_zero, List.set_cons_succ]); repeat (go_big_quiet_step (fail))
      refine wpQuiet_nil ?_; intro _ hw'; obtain ⟨nq, hw''⟩ := hw'; subst hw''
      clear cj dP1 wP dP2 la lb lc
      go_wp2_with fail
      go_loopw [25] (fun i wr => ∃ j : Nat, j ≤ k2 ∧ i = .int .i64 j ∧ Ext W8 wr) (fun i _ => k2 - (intOf i).toNat)
      case atStart => exact ⟨0, Nat.zero_le _, rfl, HE11.out.drewN _⟩
      case round =>
        obtain ⟨j, hj, rfl, E12⟩ := hrel
        have HE12 := Lib.hid E12
        by_cases hjk : j < k2
        case neg =>
          have d1 : decide ((j : Int) < (k2 : Int)) = false := decide_eq_false (by omega)
          have d2 : decide (j < k2) = false := decide_eq_false hjk
          have wk : IntKind.i64.wrap ((k2 : Int) + 1) = (k2 : Int) + 1 := IntWalk.i64_in _ (by omega)
          clear E12
          go_wp2_with fail
          go_roundw
          case rel => exact ⟨k2 + 1, by omega, by go_num, HE12.out⟩
          case measure => simp [intOf] <;> omega
        have d1 : decide ((j : Int) < (k2 : Int)) = true := decide_eq_true (by omega)
        have d2 : decide (j < k2) = true := decide_eq_true hjk
        obtain ⟨y, hy⟩ : ∃ y, q'[j]? = some y := ⟨_, List.getElem?_eq_getElem (by omega)⟩
        obtain ⟨hne, hsame⟩ := HN8.out.pa.two hjk hy HX.out
        obtain ⟨_, _, hy8⟩ := HN8.out.pa.one hy
        rw [hsn] at hy8
        obtain ⟨_, _, hb, _, hc⟩ := (R13.out.ext E12).ints.at (by omega)
        cases hb
        have cx := hc k2 hlt
        have cy := hc j (by omega)
        rw [List.getD_eq_getElem?_getD, pN_at HX.out] at cx
        rw [List.getD_eq_getElem?_getD, pN_at hy] at cy
        have cx : wr.cell? ⟨bp, op + k2, none⟩ = some (.int .i64 (1024 + (x.1 : Int))) := cx
        have cy : wr.cell? ⟨bp, op + j, none⟩ = some (.int .i64 (1024 + (y.1 : Int))) := cy
        have b1 : ((1024 + (y.1 : Int)) == (1024 + (x.1 : Int))) = false := by simp; omega
        have tx : Int.tdiv (1024 + (x.1 : Int)) 8 = ((128 + x.1 / 8 : Nat) : Int) := by rw [Int.tdiv_eq_ediv_of_nonneg (by omega)]; omega
        have ty : Int.tdiv (1024 + (y.1 : Int)) 8 = ((128 + y.1 / 8 : Nat) : Int) := by rw [Int.tdiv_eq_ediv_of_nonneg (by omega)]; omega
        have wx : IntKind.i64.wrap ((128 + x.1 / 8 : Nat) : Int) = ((128 + x.1 / 8 : Nat) : Int) := IntWalk.i64_in _ (by omega)
        have wy : IntKind.i64.wrap ((128 + y.1 / 8 : Nat) : Int) = ((128 + y.1 / 8 : Nat) : Int) := IntWalk.i64_in _ (by omega)
        have wj : IntKind.i64.wrap ((j : Int) + 1) = (j : Int) + 1 := IntWalk.i64_in _ (by omega)
        have hjl : (j : Int) < (q'.length : Int) := by omega
        have hor : x.1 / 8 = y.1 / 8 ∨ ¬ x.1 / 8 = y.1 / 8 := by omega
        have hpy := pW_at hy
        have hpx := pW_at HX.out
        generalize hPx : 1024 + (x.1 : Int) = Px at *
        generalize hPy : 1024 + (y.1 : Int) = Py at *
        rcases hor with he | he
        · have hs2 : y.2 = x.2 := hsame he.symm
          rw [hs2] at hpy
          have la := Lib.hid (fun m => (R14.out.ext (E12.drewN m)).six hpy)
          have lb := Lib.hid (fun m => (R14.out.ext (E12.drewN m)).six hpx)
          have lc := fun W => six_same x.2 W
          rw [← he] at ty wy
          generalize ((128 + x.1 / 8 : Nat) : Int) = D at *
          clear hne hsame hs2 he hPx hPy hc hy hy8 hpy hpx E12
          go_wp2_with fail
          refine wp_region_quiet_lit (by kernel_rfl) (by kernel_rfl) ?_; repeat (go_big_quiet_step (fail))
          go_big_quiet_want; refine quiet_ld _ _ rfl rfl (by rintro _ ⟨m, rfl⟩; exact la.out m) ?_; go_big_quiet_on; (try simp only [Act.put, List.setIfInBounds_toArray, List.set_cons_zero, List.set_cons_succ]); repeat (go_big_quiet_step (fail))
          go_big_quiet_want; refine quiet_ld _ _ rfl rfl (by rintro _ ⟨m, rfl⟩; exact lb.out m) ?_; go_big_quiet_on; (try simp only [Act.put, List.setIfInBounds_toArray, List.set_cons_zero, List.set_cons_succ]); repeat (go_big_quiet_step (fail))
          refine wpQuiet_nil ?_; intro _ hw'; obtain ⟨nq, hw''⟩ := hw'; subst hw''
          go_wp2_with fail
          go_roundw
          case rel => exact ⟨j + 1, by omega, by go_num, HE12.out.drewN _⟩
          case measure => simp [intOf] <;> omega
        · have b2 : (((128 + y.1 / 8 : Nat) : Int) == ((128 + x.1 / 8 : Nat) : Int)) = false := by simp; omega
          generalize ((128 + x.1 / 8 : Nat) : Int) = D at *
          generalize ((128 + y.1 / 8 : Nat) : Int) = D' at *
          clear hne hsame he hPx hPy hc hy hy8 hpy hpx E12
          go_wp2_with fail
          go_quiet (fail)
          go_wp2_with fail
          go_roundw
          case rel => exact ⟨j + 1, by omega, by go_num, HE12.out.drewN _⟩
          case measure => simp [intOf] <;> omega
set_option maxRecDepth 100000 in
theorem lifted (os : Os) (started : os.Started) (H : Type) (enc : TypeId × Value → H) :
    ReturnsInHanded {} Tryd.checked os 3 .any (fun w args => (Rows.portApartSpec.pre enc Tryd.prog Tryd.f3 [] false w args ∧ laidMetH Tryd.prog laid w) ∧ sizedMet enc Tryd.prog Tryd.f3 (OpenSpec.ofChange Rows.portApartSpec) false w args)
      (Rows.portApartSpec.post enc Tryd.prog Tryd.f3 false true false false) := by
  refine returnsInHanded_of_change_and (C := Tryd.checked) (X := fun w _ => laidMetH Tryd.prog laid w) (fun _ _ _ hh h => h.of_heap hh) own started (by kernel_rfl) Tryd.func3
    (ChangeSpec.witness_at (enc := enc) (C := Tryd.checked) (os := os) (X := fun w _ => laidMetH Tryd.prog laid w) false (laidWorld os) #[.int .i64 0, .slice none 0 0] 8 rfl (by kernel_rfl) (by kernel_rfl) (by kernel_rfl) (by kernel_rfl) (by kernel_rfl) (laidWorld_met os _)) ?_
  intro W base args ds gs before hval0 hW _ _ hL _
  have hval : ∀ (j : Nat) t v, Tryd.f3.params[j]? = some t → args[j]? = some v → Value.okWide Tryd.prog W .any base t v := hval0
  have hW' := hW
  obtain ⟨p, q, hA0, hV0, rfl, hfz, hnd⟩ := hW
  have hA : DataW.TrodAll enc Tryd.prog W 0 (fun _ => true) true Tryd.f3.params.toList args.toList ds p := hA0
  have hV : DataW.TrodVars enc Tryd.prog W (fun _ => true) [] gs q := hV0
  have hg := handle_of_laid hL
  rw [Tryd.params3] at hA hval
  obtain ⟨v0, vs0, d0, ds0, p0, q0, hargs, rfl, rfl, h0, r0⟩ := trodAll_cons hA
  obtain ⟨v1, vs1, d1, ds1, p1, q1, rfl, rfl, rfl, h1, r1⟩ := trodAll_cons r0
  obtain ⟨rfl, rfl, rfl⟩ := trodAll_nil r1
  obtain rfl : args = #[v0, v1] := by cases args; simp_all
  obtain ⟨rfl, rfl⟩ := vars_nil hV
  have lt0 : ∀ x ∈ p0, x.block < W.heap.size := by obtain ⟨m, hm⟩ := h0; exact DataW.trod_lt m _ _ _ hm
  have k0 := h0
  obtain ⟨x0, rfl, _, _, w0'⟩ := open_int Tryd.underlying3 (hval 0 3 v0 rfl rfl) h0
  have w0 : IsInt x0 := wf_i64 w0'
  have lt1 : ∀ x ∈ p1, x.block < W.heap.size := by obtain ⟨m, hm⟩ := h1; exact DataW.trod_lt m _ _ _ hm
  have k1 := h1
  obtain ⟨a1, n1, c1, rfl⟩ := okWide_slice Tryd.underlying22 (hval 1 22 v1 rfl rfl)
  obtain ⟨l1, w1⟩ := open_steps h1
  clear hA0 hval0
  refine (walk x0 a1 n1 c1 l1 W hg w0 w1).mono fun e W' ⟨he, bel⟩ => ?_
  subst he
  exact ⟨_, rfl, _, _, _, [], _, [], hW', trodAll_mk1 (shut_bool Tryd.underlying4 _), (trodAll_cons_mk (Below.trod laidOut (by kernel_rfl) (of_decide_eq_true (by kernel_rfl)) k0 bel lt0) (trodAll_cons_mk (Below.trod laidOut (by kernel_rfl) (of_decide_eq_true (by kernel_rfl)) k1 bel lt1) trodAll_mk0)), rfl, bel.frame _, fun h => by cases h⟩

theorem over : Rows.portApartRow.holds Tryd.pinned (OpenSpec.ofChange Rows.portApartSpec) :=
  OpenClaim.holds_of_wide 3 Tryd.f3 rfl rfl rfl rfl rfl rfl rfl ⟨rfl, rfl, rfl, rfl, rfl⟩ rfl rfl rfl rfl rfl (by kernel_rfl) Tryd.func3 (by kernel_rfl)
    (of_decide_eq_true (by kernel_rfl)) (by unfold Func.isWrapper; first | (rw [if_pos (by decide +kernel)]; kernel_rfl) | (rw [if_neg (by decide +kernel)]; exact ⟨rfl, rfl⟩))
    (fun os started H enc _ => lifted os started H enc)

/-- THE STATEMENT. -/
theorem proved : Rows.PortApartCardSaid :=
  Claim7.holds_tied_plain_at .later [] _ _ _ _
    over (fun _ h => by cases h) (by kernel_rfl) (fun _ h => by cases h) portApart_row_tie rfl ⟨rfl, rfl⟩ (by kernel_rfl) rfl
    (fun f fn hf hfn => by
      obtain rfl : f = 3 := Option.some.inj ((show Tryd.prog.funcNamed "gangplank/gangplanklaw2.PortApart" = some 3 by kernel_rfl).symm.trans hf) |>.symm
      obtain rfl : fn = Tryd.f3 := (Option.some.inj (Tryd.func3.symm.trans hfn)).symm
      exact ⟨by kernel_rfl, fun j t ht => by
        rw [Tryd.params3] at ht
        have hall : ((#[3, 22] : Array Nat).all fun t => !Tryd.prog.wantsStandIn t) = true := by kernel_rfl
        have := Array.all_eq_true'.1 hall t (Array.mem_of_getElem? ht)
        show Tryd.prog.wantsStandIn t = false
        simpa using this⟩)
    (by kernel_rfl)
#print axioms proved
end Go.Proofs.YtapmbjmcbllalaaDoor.portApart
