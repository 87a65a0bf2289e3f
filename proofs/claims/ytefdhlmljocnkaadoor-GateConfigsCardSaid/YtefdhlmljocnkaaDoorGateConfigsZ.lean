/- The law GateConfigs: any config is refused, or makes a gate, as the document says. Conditions: the row's own: errors.errorType holds its handle (tied). -/
import Derived.Test.YtefdhlmljocnkaaDoorFrame
import Derived.Test.YtefdhlmljocnkaaDoorErr
import Derived.ChangeSame
import Derived.ChangeVars
import Derived.JoinedOf
import Derived.LaidLaws
import Derived.LaidHandle
import Derived.Stop.Joined
import Derived.Test.YtefdhlmljocnkaaDoorOpenM
import Derived.Test.YtefdhlmljocnkaaDoorCfg
import Derived.Test.YtefdhlmljocnkaaDoorBind0
import Derived.Test.YtefdhlmljocnkaaDoorBackOwn
import Derived.Test.YtefdhlmljocnkaaDoorSum
import Derived.Test.YtefdhlmljocnkaaDoorErv
import Derived.Test.YtefdhlmljocnkaaDoorTie
import Derived.Test.YtefdhlmljocnkaaDoorCards
import Derived.SevenTiedAt
import Derived.Deep.DeepCutAuto
/- What the condition of a tied row gives: the handle in errors.errorType; a world that meets it. After the kit's worked toy 'toyas'. Conditions: as each lemma states them. -/
namespace Go.Proofs.YtefdhlmljocnkaaDoor
open Go.ChangeShapes Go.WideShapes Go.ChangeAt Go.RowKit

def laid : List (String × DataW Unit) := [("errors.errorType", Rows.laid_errors_errorType)]
theorem Tryd.et : Tryd.prog.globalNamed "errors.errorType" = some 0 := by kernel_rfl
theorem Tryd.rt : (Tryd.prog.cutTypes.find? (·.1 == "internal/reflectlite.rtype")).map (·.2) = some 185 := by kernel_rfl
theorem Tryd.oneRow : ((List.range 277).filter fun t => Tryd.prog.rowNamed t [101, 114, 114, 111, 114]) = [31] := by kernel_rfl
theorem Tryd.sizeTypes : Tryd.prog.types.size = 277 := by kernel_rfl

theorem handle_of_laid {W : World} (h : laidMetH Tryd.prog laid W) : Handle W := by
  have h' : laidMet Tryd.prog [] W ∧ handlesMet Tryd.prog laid W := h
  obtain ⟨name, u, ty, e1, e2, e3, e4, e5⟩ := h'.2 _ (List.mem_singleton.2 rfl)
  have en : name = [101, 114, 114, 111, 114] := (Option.some.inj e1).symm
  subst en
  obtain rfl := Option.some.inj (Tryd.rt.symm.trans e2)
  have hm : ty ∈ (List.range 277).filter fun t => Tryd.prog.rowNamed t [101, 114, 114, 111, 114] := List.mem_filter.2 ⟨List.mem_range.2 (by rw [← Tryd.sizeTypes]; exact e3), e4⟩
  rw [Tryd.oneRow] at hm
  obtain rfl := List.mem_singleton.1 hm
  have hh : typeHandle Tryd.prog 31 = .pointer (some ⟨9, 31, none⟩) := by kernel_rfl
  rw [hh] at e5
  have := World.var?_cell Tryd.et e5 0
  unfold Handle
  simpa using this

/-- A world that meets the condition: the settled one, the variable's cell laid. -/
noncomputable def laidWorld (os : Os) : World :=
  let w0 := World.holding Tryd.prog os ⟨#[], #[], []⟩
  { w0 with heap := w0.heap.modify 0 fun
      | .cells _ t frozen => .cells #[.iface 185 (.agg #[.pointer (some ⟨9, 31, none⟩)])] t frozen
      | o => o }
theorem laidWorld_met (os : Os) (args : Array Value) : laidMetH Tryd.prog laid ((laidWorld os).forCall (fun _ _ => 0) ⟨#[], args, []⟩).memory :=
  laidMetH_of_parts (laidMet_nil _ _) (by kernel_rfl)
theorem vars_nil {H : Type} {enc : TypeId × Value → H} {W : World} {gs : List (DataW H)} {q : List MemPlace} (hV : DataW.TrodVars enc Tryd.prog W (fun _ => true) [] gs q) : gs = [] ∧ q = [] := by
  cases gs with
  | nil => exact ⟨rfl, hV⟩
  | cons g r => exact absurd hV (by intro h; cases h)
end Go.Proofs.YtefdhlmljocnkaaDoor
/- What an argument is, once it is read: a config. Conditions: as each lemma states them. -/
namespace Go.Proofs.YtefdhlmljocnkaaDoor
open Go.ChangeShapes Go.WideShapes Go.ChangeAt Go.RowKit
/-- A config that came in. -/
def IsCfg (w : World) (c : Cfg) (a : Option Addr) (n m : Nat) (bs : List Pl.Back) : Prop := IsBacks w a n m bs ∧ c.vip.Is ∧ IsInt c.door ∧ c.pre.Is ∧ IsInt c.len ∧ IsInt c.near ∧ IsInt c.seed ∧ IsInt c.blocks
section
variable {H : Type} {enc : TypeId × Value → H} {W : World}
theorem Tryd.cellsCfg : Tryd.prog.cellsOf 26 = 23 := by kernel_rfl
theorem Tryd.cellsBacks : Tryd.prog.cellsOf 24 = 1 := by kernel_rfl
theorem open_field_backs {n : Nat} {c : Value} {y : Option (DataW H × List MemPlace)} (hy : y.isSome = true) (h : DataW.trod enc Tryd.prog W 0 (fun _ => true) true n 24 [c] = y) : ∃ a l k bs, c = .slice a l k ∧ IsBacks W a l k bs := by
  obtain ⟨⟨d, p⟩, rfl⟩ := Option.isSome_iff_exists.1 hy
  have hs : ∃ a l k, c = .slice a l k := by
    rcases Go.Deep.open_slice Tryd.underlying24 h with ⟨hcs, _⟩ | ⟨x, l, c', m, n', D, P, hcs, _⟩
    · exact ⟨none, 0, 0, by simpa using hcs⟩
    · exact ⟨some x, l, _, by simpa using hcs⟩
  obtain ⟨a, l, k, rfl⟩ := hs
  obtain ⟨bs, hb⟩ := open_backs (a := a) (n := l) (c := k) (d := d) (p := p) (W := W) (enc := enc) ⟨n, by simpa [Value.cells] using h⟩
  exact ⟨a, l, k, bs, rfl, hb⟩
set_option maxRecDepth 100000 in
theorem open_cfg {v : Value} {d : DataW H} {p : List MemPlace} {base : Nat} (hv : Value.okWide Tryd.prog W .any base 26 v) (h : DataW.Trod enc Tryd.prog W 0 (fun _ => true) true 26 v d p) :
    ∃ (q : Cfg) (a : Option Addr) (n m : Nat) (bs : List Pl.Back), v = q.v (.slice a n m) ∧ IsCfg W q a n m bs := by
  obtain ⟨cs, rfl, hsz⟩ := okWide_struct Tryd.underlying26 hv
  obtain ⟨l⟩ := cs
  match l, hsz.trans Tryd.cellsCfg with
  | [c0, c1, c2, c3, c4, c5, c6, c7, c8, c9, c10, c11, c12, c13, c14, c15, c16, c17, c18, c19, c20, c21, c22], _ =>
    obtain ⟨fuel, hf⟩ := h
    obtain ⟨xs, m, _, _, _, hlen, hg⟩ := DataW.trod_struct Tryd.underlying26 hf
    obtain ⟨s0, h0, i0⟩ := open_cells_six (isSome_at (j := 0) hlen (by simp)) (by simpa [Value.cells, Tryd.cellsSix] using hg 0 _ rfl)
    obtain ⟨x1, rfl, i1⟩ := open_cell_int (isSome_at (j := 1) hlen (by simp)) (by simpa [Value.cells, Tryd.cellsInt] using hg 1 _ rfl)
    obtain ⟨s2, h2, i2⟩ := open_cells_six (isSome_at (j := 2) hlen (by simp)) (by simpa [Value.cells, Tryd.cellsSix] using hg 2 _ rfl)
    obtain ⟨x3, rfl, i3⟩ := open_cell_int (isSome_at (j := 3) hlen (by simp)) (by simpa [Value.cells, Tryd.cellsInt] using hg 3 _ rfl)
    obtain ⟨x4, rfl, i4⟩ := open_cell_int (isSome_at (j := 4) hlen (by simp)) (by simpa [Value.cells, Tryd.cellsInt] using hg 4 _ rfl)
    obtain ⟨x5, rfl, i5⟩ := open_cell_int (isSome_at (j := 5) hlen (by simp)) (by simpa [Value.cells, Tryd.cellsInt] using hg 5 _ rfl)
    obtain ⟨x6, rfl, i6⟩ := open_cell_int (isSome_at (j := 6) hlen (by simp)) (by simpa [Value.cells, Tryd.cellsInt] using hg 6 _ rfl)
    obtain ⟨b7, rfl⟩ := open_cell_bool (isSome_at (j := 7) hlen (by simp)) (by simpa [Value.cells, Tryd.cellsBool] using hg 7 _ rfl)
    obtain ⟨a, n, k, bs, rfl, hb⟩ := open_field_backs (isSome_at (j := 8) hlen (by simp)) (by simpa [Value.cells, Tryd.cellsBacks] using hg 8 _ rfl)
    refine ⟨⟨s0, x1, s2, x3, x4, x5, x6, b7⟩, a, n, k, bs, ?_, hb, i0, i1, i2, i3, i4, i5, i6⟩
    have e0 : [c0, c1, c2, c3, c4, c5, c6, c7] = s0.cells.toList := h0
    have e2 : [c9, c10, c11, c12, c13, c14, c15, c16] = s2.cells.toList := h2
    simp only [Six.cells, List.cons.injEq, and_true] at e0 e2
    obtain ⟨rfl, rfl, rfl, rfl, rfl, rfl, rfl, rfl⟩ := e0
    obtain ⟨rfl, rfl, rfl, rfl, rfl, rfl, rfl, rfl⟩ := e2
    rfl
end
end Go.Proofs.YtefdhlmljocnkaaDoor
/- A gate that is new: slices.Clone of servers, gate.New, Now, Binds. Conditions: as each lemma states them. -/
namespace Go.Proofs.YtefdhlmljocnkaaDoor
open Go.RowKit
set_option maxRecDepth 100000 in
set_option maxHeartbeats 1000000 in
theorem bclone_any (a : Option Addr) (n c : Nat) (bs : List Pl.Back) (w : World) (hb : Backs w a n bs) (hn : n ≤ 8) :
    Calls Tryd.prog 46 #[.slice a n c] w fun e w' => ∃ v, e = .returned v ∧ OwnB w' w.heap.size v bs ∧ Ext w w' := by
  cases a with
  | none =>
    have h0 : n = 0 := by
      rcases hb.2 with h | ⟨_, _, h, _⟩
      · exact h
      · cases h
    subst h0
    obtain rfl : bs = [] := List.length_eq_zero_iff.1 hb.1
    have heq : ∀ W : World, (binOp BinOp.eql 24 (.slice none 0 c) (.slice none 0 0)).run Tryd.prog W = .ok (.bool true) W := fun W => by kernel_rfl
    clear hb
    go_enter Tryd.func46, Tryd.ntmps46
    go_wp2_with fail
    go_returns
    exact ⟨_, rfl, OwnB.nil _ _, Ext.refl _⟩
  | some p =>
    have HB := Lib.hid hb
    have heq : ∀ W : World, (binOp BinOp.eql 24 (.slice (some p) n c) (.slice none 0 0)).run Tryd.prog W = .ok (.bool false) W := fun W => by kernel_rfl
    clear hb
    go_enter Tryd.func46, Tryd.ntmps46
    go_wp2_with (at_builtin; refine Halt.out ?_)
    refine Halt.mk ?_
    have hE : Ext w (w.alloc (.cells #[] 95)) := (Ext.refl w).alloc _
    have hown : OwnB (w.alloc (.cells #[] 95)) w.heap.size (.slice (some ⟨w.heap.size, 0, none⟩) 0 0) [] :=
      ⟨rfl, .inr ⟨w.heap.size, 0, #[], rfl, Nat.le_refl _, heap_alloc_new w _, Nat.le_refl _, by unfold maxLen; omega, rfl, rfl⟩⟩
    refine appB rfl _ _ rfl w.heap.size _ [] rfl hown (some p) n c bs rfl (HB.out.ext hE) (by simp; omega) hE.size ?_
    intro v W ho _ hb2
    have hE2 : Ext w W := Below.trans hE hb2
    go_wp2
    go_returns
    exact ⟨v, rfl, by simpa using ho, hE2⟩
/-- A gate at which nothing has gone on: what is asked of it here. -/
structure Gate0 (w : World) (gG : Nat) (n : Nat) : Prop where
  now : w.cell? ⟨gG, 25, none⟩ = some (.int .i64 0)
  tab : ∃ gT gP gB gF gN, w.cell? ⟨gG, 23, none⟩ = some (.pointer (some ⟨gT, 0, none⟩)) ∧ Tab0 w gT gP gB gF gN n
theorem Tab0.ext {w w' : World} {gT gP gB gF gN n : Nat} (h : Tab0 w gT gP gB gF gN n) (k : Ext w w') : Tab0 w' gT gP gB gF gN n :=
  ⟨h.ptr.ext k, h.prt.ext k, (Below.block k gF (Array.getElem?_eq_some_iff.1 h.flows).1).trans h.flows, (Below.block k gN (Array.getElem?_eq_some_iff.1 h.nears).1).trans h.nears⟩
theorem Tab0.set {w : World} {gT gP gB gF gN n g : Nat} (h : Tab0 w gT gP gB gF gN n) (i : Nat) (u : Value) (h1 : gT ≠ g) (h2 : gP ≠ g) (h3 : gB ≠ g) (h4 : gF ≠ g) (h5 : gN ≠ g) : Tab0 (w.setCell ⟨g, i, none⟩ u) gT gP gB gF gN n :=
  ⟨h.ptr.far h1 u, ⟨h.prt.ptr.far h2 u, h.prt.row.far h3 u, h.prt.ne, h.prt.n0, h.prt.n1⟩, (Below.heap_setCell w _ u gF h4).trans h.flows, (Below.heap_setCell w _ u gN h5).trans h.nears⟩
set_option maxRecDepth 100000 in
set_option maxHeartbeats 2000000 in
theorem gnew_no (c : Cfg) (a : Option Addr) (n m : Nat) (bs : List Pl.Back) (i q : Int) (w : World) (hb : Backs w a n bs) (hnm : n ≤ m) (hp : Pl.PF bs i q) (he : c.err q ≠ 0) :
    Calls Tryd.prog 10 #[c.v (.slice a n m)] w fun e w' => e = .returned (.tuple #[.pointer none, errv (c.err q)]) ∧ Ext w w' := by
  have KC := Blk.new w 26 (c.cells (.slice a n m))
  have E0 := (Ext.refl w).alloc (.cells (c.cells (.slice a n m)) 26)
  have HB := Lib.hid hb
  have HP := Lib.hid hp
  have HE := Lib.hid he
  clear hb hp he
  have ld := KC.cfg
  go_enter Tryd.func10, Tryd.ntmps10
  go_wp2_with ((apply load_by rfl _ _ rfl _ rfl); (focus (with_reducible assumption)))
  refine (gcheck_any c a n m bs i q _ (HB.out.ext E0) hnm HP.out).mono ?_
  rintro e W1 ⟨rfl, q1⟩
  have E1 := E0.trans q1
  rw [erv_ne HE.out]
  unfold errv
  clear ld KC E0 q1
  go_wp2_with fail
  go_returns
  exact ⟨rfl, E1⟩
set_option maxRecDepth 100000 in
set_option maxHeartbeats 2000000 in
theorem gnew_ok (c : Cfg) (a : Option Addr) (n m : Nat) (bs : List Pl.Back) (i q : Int) (w : World) (hb : Backs w a n bs) (hnm : n ≤ m) (hp : Pl.PF bs i q) (he : c.err q = 0) :
    Calls Tryd.prog 10 #[c.v (.slice a n m)] w fun e w' => ∃ gG, e = .returned (.tuple #[.pointer (some ⟨gG, 0, none⟩), .nilIface]) ∧ Gate0 w' gG c.blocks.toNat ∧ Ext w w' := by
  have KC := Blk.new w 26 (c.cells (.slice a n m))
  have E0 := (Ext.refl w).alloc (.cells (c.cells (.slice a n m)) 26)
  have HB := Lib.hid hb
  have HP := Lib.hid hp
  have HE := Lib.hid he
  have hgood : c.numB = true ∧ q = 0 := by
    unfold Cfg.err at he
    split at he
    · split at he
      · split at he
        · split at he
          · split at he
            · rename_i h1 h2
              exact ⟨h1, h2⟩
            · rename_i h; exact absurd he h
          · cases he
        · rename_i h; exact absurd he h
      · cases he
    · cases he
  obtain ⟨hnum, hq⟩ := hgood
  obtain ⟨_, _, _, hb1, hb2⟩ := Cfg.numB_yes hnum
  have hn8 : n ≤ 8 := by
    have := (hp.ok hq).1
    rw [hb.1] at this
    exact this
  clear hb hp he hnum hq
  have ld := KC.cfg
  have hmm := @run_makeMap Tryd.prog
  go_enter Tryd.func10, Tryd.ntmps10
  go_wp2_with ((apply load_by rfl _ _ rfl _ rfl); (focus (with_reducible assumption)))
  refine (gcheck_any c a n m bs i q _ (HB.out.ext E0) hnm HP.out).mono ?_
  rintro e W1 ⟨rfl, q1⟩
  have E1 := E0.trans q1
  have K1 := KC.ext q1
  rw [HE.out, erv_zero]
  obtain ⟨nb, hnb⟩ : ∃ nb : Nat, c.blocks = (nb : Int) := ⟨c.blocks.toNat, by omega⟩
  have c20 := K1.cfgNums.2.2.2.2.1
  have HNB := Lib.hid (show c.blocks.toNat = nb by omega)
  rw [hnb] at c20 hb1 hb2
  clear ld KC E0 q1
  go_wp2_with fail
  refine (bnew_ok nb W1 (by omega) (by omega)).mono ?_
  rintro e W2 ⟨gT, gP, gB, gF, gN, rfl, T2, q2, l1, l2, l3, l4, l5⟩
  have E2 := E1.trans q2
  have K2 := K1.ext q2
  have c22 := K2.cfgNums.2.2.2.2.2
  have hgc : w.heap.size < W1.heap.size := K1.lt
  clear c20 q2
  go_wp2_with fail
  refine (bclone_any a n m bs W2 (HB.out.ext E2) hn8).mono ?_
  rintro e W3 ⟨v3, rfl, o3, q3⟩
  have E3 := E2.trans q3
  have K3 := K2.ext q3
  have T3 := T2.ext q3
  have f22 := K3.free 22
  have c22 := K3.cells 22
  obtain ⟨a3, n3, m3, rfl, _, _⟩ := o3.read
  have K4 := K3.put 22 (.slice a3 n3 m3)
  have T4 := T3.set (g := w.heap.size) 22 (.slice a3 n3 m3) (by omega) (by omega) (by omega) (by omega) (by omega)
  have E4 : Ext w (W3.setCell ⟨w.heap.size, 22, none⟩ (.slice a3 n3 m3)) := Ext.set E3 (p := ⟨w.heap.size, 22, none⟩) (Nat.le_refl _) _
  clear E3 K3 T3 o3 K2 T2 E2 q3
  go_upto_region 8 with (fail)
  refine at_worldE (fun W => Ext w W ∧ Blk W w.heap.size 26 (c.cells (.slice a3 n3 m3)) ∧ Tab0 W gT gP gB gF gN nb) ⟨E4, K4, T4⟩ ?_
  clear E4 K4 T4 f22 c22
  rintro W4 ⟨E4, K4, T4⟩
  have ld : (Instr.loadAt 26 (.pointer (some ⟨w.heap.size, 0, none⟩))).run Tryd.prog W4 = .ok (.agg #[.int .i64 c.vip.x0, .int .i64 c.vip.x1, .int .i64 c.vip.x2, .int .i64 c.vip.x3, .int .i64 c.vip.x4, .int .i64 c.vip.x5, .int .i64 c.vip.x6, .int .i64 c.vip.x7, .int .i64 c.door, .int .i64 c.pre.x0, .int .i64 c.pre.x1, .int .i64 c.pre.x2, .int .i64 c.pre.x3, .int .i64 c.pre.x4, .int .i64 c.pre.x5, .int .i64 c.pre.x6, .int .i64 c.pre.x7, .int .i64 c.len, .int .i64 c.near, .int .i64 c.seed, .int .i64 c.blocks, .bool c.inj, .slice a3 n3 m3]) W4 := K4.cfg
  have HE4 := Lib.hid E4
  have HT4 := Lib.hid T4
  clear E4 K4 T4
  go_wp2_with ((apply load_by rfl _ _ rfl _ rfl); (focus (with_reducible assumption)))
  go_returns
  have KG := Blk.at (n := W4.heap.size + 1) (W4.alloc (.map #[] 0)) 98 #[.int .i64 c.vip.x0, .int .i64 c.vip.x1, .int .i64 c.vip.x2, .int .i64 c.vip.x3, .int .i64 c.vip.x4, .int .i64 c.vip.x5, .int .i64 c.vip.x6, .int .i64 c.vip.x7, .int .i64 c.door, .int .i64 c.pre.x0, .int .i64 c.pre.x1, .int .i64 c.pre.x2, .int .i64 c.pre.x3, .int .i64 c.pre.x4, .int .i64 c.pre.x5, .int .i64 c.pre.x6, .int .i64 c.pre.x7, .int .i64 c.len, .int .i64 c.near, .int .i64 c.seed, .int .i64 (nb : Int), .bool c.inj, .slice a3 n3 m3, .pointer (some ⟨gT, 0, none⟩), .map (some W4.heap.size), .int .i64 0] (by simp)
  rw [HNB.out]
  refine ⟨W4.heap.size + 1, rfl, ⟨KG.cells 25, gT, gP, gB, gF, gN, KG.cells 23, ?_⟩, ?_⟩
  · exact HT4.out.ext (((Ext.refl W4).alloc _).alloc _)
  · exact (HE4.out.alloc _).alloc _
set_option maxRecDepth 100000 in
theorem gnow_zero (gG n : Nat) (w : World) (h : Gate0 w gG n) : Calls Tryd.prog 11 #[.pointer (some ⟨gG, 0, none⟩)] w fun e w' => e = .returned (.int .i64 0) ∧ w' = w := by
  have c25 := h.now
  clear h
  go_enter Tryd.func11, Tryd.ntmps11
  go_wp2_with fail
  go_returns
  exact ⟨rfl, rfl⟩
set_option maxRecDepth 100000 in
theorem gbinds_zero (gG n : Nat) (w : World) (h : Gate0 w gG n) : Calls Tryd.prog 12 #[.pointer (some ⟨gG, 0, none⟩)] w fun e w' => e = .returned (.slice none 0 0) ∧ Ext w w' := by
  obtain ⟨gT, gP, gB, gF, gN, c23, hT⟩ := h.tab
  have HA := Lib.hid (all_zero gT gP gB gF gN n w hT)
  clear h hT
  go_enter Tryd.func12, Tryd.ntmps12
  go_wp2_with fail
  refine HA.out.mono ?_
  rintro e w' ⟨rfl, q⟩
  go_wp2_with fail
  go_returns
  exact ⟨rfl, q⟩
end Go.Proofs.YtefdhlmljocnkaaDoor
/- plain.Told and gangplanksame.Error of nil and of an Errno. Conditions: the variable errors.errorType holds the handle that the row lists (Handle). -/
namespace Go.Proofs.YtefdhlmljocnkaaDoor
open Go.RowKit

theorem Handle.below {w w' : World} (h : Handle w) (hb : Below w.heap.size w w') : Handle w' := by
  unfold Handle at *
  rw [hb.cell (World.block_lt_of_cell? w _ h)]
  exact h

theorem told_nil (w : World) : Calls Tryd.prog 41 #[.nilIface] w fun e w' => e = .returned (.int .i64 0) ∧ w = w' := by
  go_enter Tryd.func41, Tryd.ntmps41
  go_wp2
  go_ret
  exact ⟨rfl, rfl⟩
theorem told_err (n : Int) (w : World) (hg : Handle w) : Calls Tryd.prog 41 #[errv n] w fun e w' => e = .returned (.int .i64 n) ∧ Below w.heap.size w w' := by
  have hb : Below w.heap.size w (w.alloc (.cells #[.int .i64 0] 27)) := by go_grown
  have H := Lib.hid (hg.below hb)
  have hc : (w.alloc (.cells #[.int .i64 0] 27)).cell? ⟨w.heap.size, 0, none⟩ = some (.int .i64 0) := by simp
  have hf : (w.alloc (.cells #[.int .i64 0] 27)).frozen? ⟨w.heap.size, 0, none⟩ = false := by simp
  have hz : w.heap.size < (w.alloc (.cells #[.int .i64 0] 27)).heap.size := by simp
  have HC := Lib.hid hc
  have HF := Lib.hid hf
  clear hg hc hf
  unfold errv
  go_enter Tryd.func41, Tryd.ntmps41
  go_wp2_with fail
  generalize w.alloc (.cells #[.int .i64 0] 27) = W1 at *
  with_reducible refine (as_hit n ⟨w.heap.size, 0, none⟩ _ W1 H.out HC.out HF.out).mono ?_
  rintro e w' ⟨rfl, X, hX, rfl⟩
  have hx : X.cell? ⟨w.heap.size, 0, none⟩ = some (.int .i64 0) := (hX.cell (p := ⟨w.heap.size, 0, none⟩) hz).trans HC.out
  have hn : (X.setCell ⟨w.heap.size, 0, none⟩ (.int .i64 n)).cell? ⟨w.heap.size, 0, none⟩ = some (.int .i64 n) := by simp [go_sem, hx]
  have B : Below w.heap.size w (X.setCell ⟨w.heap.size, 0, none⟩ (.int .i64 n)) := (hb.trans (hX.mono hb.size)).setCell (p := ⟨w.heap.size, 0, none⟩) (Nat.le_refl _) _
  generalize X.setCell ⟨w.heap.size, 0, none⟩ (.int .i64 n) = W2 at *
  go_wp2_with fail
  go_ret
  exact ⟨rfl, B⟩

theorem error_nil (m : Int) (w : World) : Calls Tryd.prog 8 #[.nilIface, .int .i64 m] w fun e w' => e = .returned (.bool ((0 : Int) == m)) ∧ w = w' := by
  go_enter Tryd.func8, Tryd.ntmps8
  go_wp2_with fail
  refine (told_nil w).mono ?_
  rintro e w' ⟨rfl, rfl⟩
  go_wp2_with fail
  go_ret
  exact ⟨rfl, rfl⟩
theorem error_err (n m : Int) (w : World) (hg : Handle w) : Calls Tryd.prog 8 #[errv n, .int .i64 m] w fun e w' => e = .returned (.bool (n == m)) ∧ Below w.heap.size w w' := by
  have H := Lib.hid hg
  clear hg
  unfold errv
  go_enter Tryd.func8, Tryd.ntmps8
  go_wp2_with fail
  refine (told_err n w H.out).mono ?_
  rintro e w' ⟨rfl, hb⟩
  go_wp2_with fail
  go_ret
  exact ⟨rfl, hb⟩
end Go.Proofs.YtefdhlmljocnkaaDoor
/- Errors by number, told alike: what the statements compare. Conditions: Handle, where an error is looked at. -/
namespace Go.Proofs.YtefdhlmljocnkaaDoor
open Go.RowKit
theorem err_same (q : Int) (w : World) (hg : Handle w) : Calls Tryd.prog 8 #[erv q, .int .i64 q] w fun e w' => e = .returned (.bool true) ∧ Below w.heap.size w w' := by
  by_cases h : q = 0
  · subst h
    rw [erv_zero]
    exact (error_nil 0 w).mono fun _ _ ⟨he, hw⟩ => ⟨he, by rw [← hw]; exact Below.refl _ _⟩
  · rw [erv_ne h]
    exact (error_err q q w hg).mono fun _ _ ⟨he, hb⟩ => ⟨by rw [he]; simp, hb⟩
end Go.Proofs.YtefdhlmljocnkaaDoor
namespace Go.Proofs.YtefdhlmljocnkaaDoor.gateConfigs
open Go.ChangeShapes Go.WideShapes Go.ChangeAt Go.RowKit
set_option maxRecDepth 100000 in
set_option maxHeartbeats 2000000 in
theorem walk (c : Cfg) (a0 : Option Addr) (n0 m0 : Nat) (b0 : List Pl.Back) (w : World) (hg : Handle w) (w0 : IsCfg w c a0 n0 m0 b0) :
    Calls Tryd.prog 3 #[c.v (.slice a0 n0 m0)] w fun e w' => e = .returned (.bool true) ∧ Below w.heap.size w w' := by
  obtain ⟨⟨hb, hnm, _⟩, _⟩ := w0
  obtain ⟨i, q, hp⟩ := Pl.PF.ex b0
  have HG := Lib.hid hg
  have HB := Lib.hid hb
  have HP := Lib.hid hp
  have KC := Blk.new w 26 (c.cells (.slice a0 n0 m0))
  have E0 := (Ext.refl w).alloc (.cells (c.cells (.slice a0 n0 m0)) 26)
  have ld := KC.cfg
  clear hb hp hg
  go_enter Tryd.func3, Tryd.ntmps3
  go_wp2_with ((apply load_by rfl _ _ rfl _ rfl); (focus (with_reducible assumption)))
  refine (cfault_any c a0 n0 m0 b0 i q _ (HB.out.ext E0) HP.out).mono ?_
  rintro e W1 ⟨rfl, q1⟩
  have E1 := E0.trans q1
  have K1 := KC.ext q1
  clear ld KC E0 q1
  have ld := K1.cfg
  go_wp2_with ((apply load_by rfl _ _ rfl _ rfl); (focus (with_reducible assumption)))
  refine (gcheck_any c a0 n0 m0 b0 i q W1 (HB.out.ext E1) hnm HP.out).mono ?_
  rintro e W2 ⟨rfl, q2⟩
  have E2 := E1.trans q2
  have K2 := K1.ext q2
  clear ld K1 E1 q2
  go_wp2_with fail
  refine (err_same (c.err q) W2 (HG.out.below E2)).mono ?_
  rintro e W3 ⟨rfl, b3⟩
  have q3 : Ext W2 W3 := b3
  have E3 := E2.trans q3
  have K3 := K2.ext q3
  clear b3 q3 E2 K2
  have ld := K3.cfg
  go_wp2_with ((apply load_by rfl _ _ rfl _ rfl); (focus (with_reducible assumption)))
  by_cases he : c.err q = 0
  case neg =>
    refine (gnew_no c a0 n0 m0 b0 i q W3 (HB.out.ext E3) hnm HP.out he).mono ?_
    rintro e W4 ⟨rfl, q4⟩
    have E4 := E3.trans q4
    have HE := Lib.hid (err_same (c.err q) W4 (HG.out.below E4))
    rw [erv_ne he] at HE
    have hne : (c.err q != 0) = true := by simp [he]
    unfold errv at HE ⊢
    clear ld E3 K3 q4 he
    go_wp2_with fail
    refine HE.out.mono ?_
    rintro e W5 ⟨rfl, b5⟩
    have q5 : Ext W4 W5 := b5
    have E5 := E4.trans q5
    clear b5 q5 E4
    go_wp2_with fail
    go_ret
    exact ⟨rfl, E5⟩
  refine (gnew_ok c a0 n0 m0 b0 i q W3 (HB.out.ext E3) hnm HP.out he).mono ?_
  rintro e W4 ⟨gG, rfl, G4, q4⟩
  have E4 := E3.trans q4
  have HE := Lib.hid (err_same 0 W4 (HG.out.below E4))
  rw [erv_zero] at HE
  rw [he]
  clear ld E3 K3 q4 he
  go_wp2_with fail
  refine HE.out.mono ?_
  rintro e W5 ⟨rfl, b5⟩
  have q5 : Ext W4 W5 := b5
  have E5 := E4.trans q5
  obtain ⟨gT, gP, gB, gF, gN, c23, hT⟩ := G4.tab
  have G5 : Gate0 W5 gG c.blocks.toNat := ⟨(World.cell?_of_block (Below.block q5 gG (World.block_lt_of_cell? W4 _ G4.now))).trans G4.now, gT, gP, gB, gF, gN, (World.cell?_of_block (Below.block q5 gG (World.block_lt_of_cell? W4 _ G4.now))).trans c23, hT.ext q5⟩
  clear b5 q5 E4 G4 c23 hT
  go_wp2_with fail
  refine (gnow_zero gG c.blocks.toNat W5 G5).mono ?_
  rintro e W6 ⟨rfl, rfl⟩
  go_wp2_with fail
  refine (gbinds_zero gG c.blocks.toNat _ G5).mono ?_
  rintro e W7 ⟨rfl, q7⟩
  have E7 := E5.trans q7
  go_wp2_with fail
  go_ret
  exact ⟨rfl, E7⟩
set_option maxRecDepth 100000 in
theorem lifted (os : Os) (started : os.Started) (H : Type) (enc : TypeId × Value → H) :
    ReturnsInHanded {} Tryd.checked os 3 .any (fun w args => (Rows.gateConfigsSpec.pre enc Tryd.prog Tryd.f3 [] false w args ∧ laidMetH Tryd.prog laid w) ∧ sizedMet enc Tryd.prog Tryd.f3 (OpenSpec.ofChange Rows.gateConfigsSpec) false w args)
      (Rows.gateConfigsSpec.post enc Tryd.prog Tryd.f3 false true false false) := by
  refine returnsInHanded_of_change_and (C := Tryd.checked) (X := fun w _ => laidMetH Tryd.prog laid w) (fun _ _ _ hh h => h.of_heap hh) own started (by kernel_rfl) Tryd.func3
    (ChangeSpec.witness_at (enc := enc) (C := Tryd.checked) (os := os) (X := fun w _ => laidMetH Tryd.prog laid w) false (laidWorld os) #[.agg #[.int .i64 0, .int .i64 0, .int .i64 0, .int .i64 0, .int .i64 0, .int .i64 0, .int .i64 0, .int .i64 0, .int .i64 0, .int .i64 0, .int .i64 0, .int .i64 0, .int .i64 0, .int .i64 0, .int .i64 0, .int .i64 0, .int .i64 0, .int .i64 0, .int .i64 0, .int .i64 0, .int .i64 0, .bool false, .slice none 0 0]] 8 rfl (by kernel_rfl) (by kernel_rfl) (by kernel_rfl) (by kernel_rfl) (by kernel_rfl) (laidWorld_met os _)) ?_
  intro W base args ds gs before hval0 hW _ _ hL _
  have hval : ∀ (j : Nat) t v, Tryd.f3.params[j]? = some t → args[j]? = some v → Value.okWide Tryd.prog W .any base t v := hval0
  have hW' := hW
  obtain ⟨p, q, hA0, hV0, rfl, hfz, hnd⟩ := hW
  have hA : DataW.TrodAll enc Tryd.prog W 0 (fun _ => true) true Tryd.f3.params.toList args.toList ds p := hA0
  have hV : DataW.TrodVars enc Tryd.prog W (fun _ => true) [] gs q := hV0
  have hg := handle_of_laid hL
  rw [Tryd.params3] at hA hval
  obtain ⟨v0, vs0, d0, ds0, p0, q0, hargs, rfl, rfl, h0, r0⟩ := trodAll_cons hA
  obtain ⟨rfl, rfl, rfl⟩ := trodAll_nil r0
  obtain rfl : args = #[v0] := by cases args; simp_all
  obtain ⟨rfl, rfl⟩ := vars_nil hV
  have lt0 : ∀ x ∈ p0, x.block < W.heap.size := by obtain ⟨m, hm⟩ := h0; exact DataW.trod_lt m _ _ _ hm
  have k0 := h0
  obtain ⟨cf0, a0, n0, m0, b0, rfl, w0⟩ := open_cfg (hval 0 26 v0 rfl rfl) h0
  clear hA0 hval0
  refine (walk cf0 a0 n0 m0 b0 W hg w0).mono fun e W' ⟨he, bel⟩ => ?_
  subst he
  exact ⟨_, rfl, _, _, _, [], _, [], hW', trodAll_mk1 (shut_bool Tryd.underlying4 _), (trodAll_cons_mk (Below.trod laidOut (by kernel_rfl) (of_decide_eq_true (by kernel_rfl)) k0 bel lt0) trodAll_mk0), rfl, bel.frame _, fun h => by cases h⟩

theorem over : Rows.gateConfigsRow.holds Tryd.pinned (OpenSpec.ofChange Rows.gateConfigsSpec) :=
  OpenClaim.holds_of_wide 3 Tryd.f3 rfl rfl rfl rfl rfl rfl rfl ⟨rfl, rfl, rfl, rfl, rfl⟩ rfl rfl rfl rfl rfl (by kernel_rfl) Tryd.func3 (by kernel_rfl)
    (of_decide_eq_true (by kernel_rfl)) (by unfold Func.isWrapper; first | (rw [if_pos (by decide +kernel)]; kernel_rfl) | (rw [if_neg (by decide +kernel)]; exact ⟨rfl, rfl⟩))
    (fun os started H enc _ => lifted os started H enc)

/-- THE STATEMENT. -/
theorem proved : Rows.GateConfigsCardSaid :=
  Claim7.holds_tied_plain_at .later [] _ _ _ _
    over (fun _ h => by cases h) (by kernel_rfl) (fun _ h => by cases h) gateConfigs_row_tie rfl ⟨rfl, rfl⟩ (by kernel_rfl) rfl
    (fun f fn hf hfn => by
      obtain rfl : f = 3 := Option.some.inj ((show Tryd.prog.funcNamed "gangplank/gangplanklaw3.GateConfigs" = some 3 by kernel_rfl).symm.trans hf) |>.symm
      obtain rfl : fn = Tryd.f3 := (Option.some.inj (Tryd.func3.symm.trans hfn)).symm
      exact ⟨by kernel_rfl, fun j t ht => by
        rw [Tryd.params3] at ht
        have hall : ((#[26] : Array Nat).all fun t => !Tryd.prog.wantsStandIn t) = true := by kernel_rfl
        have := Array.all_eq_true'.1 hall t (Array.mem_of_getElem? ht)
        show Tryd.prog.wantsStandIn t = false
        simpa using this⟩)
    (by kernel_rfl)
#print axioms proved
end Go.Proofs.YtefdhlmljocnkaaDoor.gateConfigs
