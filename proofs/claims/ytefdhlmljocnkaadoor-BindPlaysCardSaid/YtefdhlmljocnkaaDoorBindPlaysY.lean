/- The document's table of binds: Use. Conditions: as each theorem states them. -/
import Derived.Test.YtefdhlmljocnkaaDoorBtM
import Derived.Test.YtefdhlmljocnkaaDoorRowL
import Derived.Test.YtefdhlmljocnkaaDoorMapR
import Derived.Test.YtefdhlmljocnkaaDoorPort3
import Derived.Test.YtefdhlmljocnkaaDoorBackOwn
import Derived.Deep.DeepCutAuto
import Derived.Maps.RangeWalk
import Derived.Shelf.SlSortCmp.WholeK
import Derived.Test.YtefdhlmljocnkaaDoorTabO
import Derived.Test.YtefdhlmljocnkaaDoorBt
import Derived.Test.YtefdhlmljocnkaaDoorTab
import Derived.Test.YtefdhlmljocnkaaDoorRPort
import Derived.Test.YtefdhlmljocnkaaDoorRef2
import Derived.Test.YtefdhlmljocnkaaDoorTake
import Derived.Deep.RegionHeld3
/- Rows of binds. Conditions: as each lemma states them. -/
namespace Go.Proofs.YtefdhlmljocnkaaDoor
open Go.RowKit
/-- Binds in cells. -/
def KB : Kin Bd := ⟨fun b => b.cells.toList, 23, by decide, fun _ => rfl, fun b u hu => (Array.all_eq_true_iff_forall_mem.1 b.one) u (by simpa using hu)⟩
theorem Tryd.infoBind : (Tryd.prog.info? 53).map (fun i => (i.zero, i.size, i.bytes)) = some (some (.agg #[.int .i64 0, .int .i64 0, .int .i64 0, .int .i64 0, .int .i64 0, .int .i64 0, .int .i64 0, .int .i64 0, .int .i64 0, .int .i64 0, .int .i64 0, .int .i64 0, .int .i64 0, .int .i64 0, .int .i64 0, .int .i64 0, .int .i64 0, .int .i64 0, .int .i64 0, .int .i64 0, .int .i64 0, .int .i64 0, .int .i64 0]), 23, 184) := by kernel_rfl
theorem Tryd.elemBinds : Tryd.prog.elem 37 = 53 := by kernel_rfl
theorem appBL {w : World} {ops : Array Oper} {rest : List Oper} {o : Oper} {a : Act} {Q : Exit → Act → World → Prop} (hgd : o.guard = none) (s x : Operand)
    (ho : o.op = .call { callee := .builtin .append, args := #[s, x], argTypes := #[37, 37] })
    (B : Nat) (v : Value) (ys : List Bd) (hs : a.eval s = v) (hown : KB.Own 53 w B v ys) (ao : Option Addr) (m c : Nat) (xs : List Bd) (hx : a.eval x = .slice ao m c) (hr : KB.See w ao m xs)
    (hmax : ys.length + m ≤ 1073741824) (hbase : B ≤ w.heap.size)
    (h : ∀ v' w', KB.Own 53 w' B v' (ys ++ xs) → w.grownBy w' v.ownBlock → Below B w w' → (v'.ownBlock = v.ownBlock ∨ v'.ownBlock = some w.heap.size) → wpList Tryd.prog ops Q rest (a.put o.dst v') w') : wpList Tryd.prog ops Q (o :: rest) a w :=
  appKL KB 37 53 _ 184 Tryd.underlying37 Tryd.infoBind rfl (by decide) hgd s x ho B v ys hs hown ao m c xs hx hr hmax hbase h
theorem Blk.binds1 {w : World} {g : Nat} {t : TypeId} {b : Bd} (h : Blk w g t b.cells) : KB.See w (some ⟨g, 0, none⟩) 1 [b] := Kin.See.blk h (by simp [Kin.cells, KB])
/-- A bind of a row, read whole. -/
theorem Kin.See.bind {w : World} {b off n : Nat} {xs : List Bd} (h : KB.See w (some ⟨b, off, none⟩) n xs) {i : Nat} {x : Bd} (hi : xs[i]? = some x) :
    (Instr.loadAt 53 (.pointer (some ⟨b, off + i * 23, none⟩))).run Tryd.prog w = .ok (.agg x.cells) w := by
  have hn : 0 < n := by
    have := (List.getElem?_eq_some_iff.1 hi).1
    rw [h.1] at this
    omega
  rcases h.2 with h0 | ⟨b', off', hb, hc⟩
  · omega
  · cases hb
    have := run_loadAt_mid (P := Tryd.prog) w b (off + i * 23) 53 x.cells.toList _ (fun j v hv => hc i x hi j v hv) Tryd.underlying53 rfl Tryd.sizeBd
    rw [Array.toArray_toList] at this
    exact this
/-- Entries that have come, of all. -/
structure Vis (l d : List Te) : Prop where
  sub : ∀ x ∈ d, x ∈ l
  nd : (d.map Te.sN).Nodup
theorem nodup_of_map {α β : Type} {f : α → β} {l : List α} (h : (l.map f).Nodup) : l.Nodup := by
  unfold List.Nodup at *
  rw [List.pairwise_map] at h
  exact h.imp fun hne he => hne (by rw [he])
theorem stamp_inj {l : List Te} (h : (l.map Te.sN).Nodup) {x y : Te} (hx : x ∈ l) (hy : y ∈ l) (he : x.sN = y.sN) : x = y := by
  obtain ⟨i, hi⟩ := List.mem_iff_getElem?.1 hx
  obtain ⟨j, hj⟩ := List.mem_iff_getElem?.1 hy
  have hij := (List.getElem?_inj (i := i) (j := j) (by simp only [List.length_map]; exact (List.getElem?_eq_some_iff.1 hi).1) h).1 (by rw [List.getElem?_map, List.getElem?_map, hi, hj]; simp [he])
  rw [← hij, hi] at hj
  exact Option.some.inj hj
theorem Vis.all {l d : List Te} (h : Vis l d) (hl : (l.map Te.sN).Nodup) (ha : ∀ x ∈ l, x.sN ∈ d.map Te.sN) : d.Perm l := by
  rw [List.perm_ext_iff_of_nodup (nodup_of_map h.nd) (nodup_of_map hl)]
  intro x
  refine ⟨h.sub x, fun hx => ?_⟩
  obtain ⟨y, hy, he⟩ := List.mem_map.1 (ha x hx)
  rw [← stamp_inj hl (h.sub y hy) hx he]
  exact hy
theorem Vis.add {l d : List Te} (h : Vis l d) {x : Te} (hx : x ∈ l) (hn : x.sN ∉ d.map Te.sN) : Vis l (d ++ [x]) := by
  refine ⟨fun y hy => ?_, ?_⟩
  · rcases List.mem_append.1 hy with hy | hy
    · exact h.sub y hy
    · simp at hy; subst hy; exact hx
  · rw [List.map_append, List.nodup_append]
    refine ⟨h.nd, by simp, fun a ha b hb => ?_⟩
    simp at hb
    subst hb
    exact fun he => hn (he ▸ ha)
theorem Vis.len {l d : List Te} (h : Vis l d) : d.length ≤ l.length := List.Nodup.length_le_of_subset (nodup_of_map h.nd) fun x hx => h.sub x hx
end Go.Proofs.YtefdhlmljocnkaaDoor
/- bind.All up to its sorting: the binds of a map, in whatever order. Conditions: as each lemma states them. -/
namespace Go.Proofs.YtefdhlmljocnkaaDoor
open Go.RowKit
/-- A step of a range over a table's ports. -/
theorem at_nextT {w : World} {r gN since cN : Nat} {seen : List Nat} {l : List Te} {ops : Array Oper} {rest : List Oper} {o : Oper} {a : Act} {Q : Exit → Act → World → Prop} (hg : o.guard = none) (it : Operand) (hop : o.op = Op.next it false) (hit : a.eval it = .pointer (some ⟨r, 0, none⟩))
    (h : MapIs keyI w gN (l.map Te.inN) cN) (hi : It w r gN since seen) (hrg : r ≠ gN) (hold : ∀ y ∈ l, y.sN < since) (hsc : since ≤ cN) (hn : (l.map Te.sN).Nodup)
    (hDone : (∀ y ∈ l, y.sN ∈ seen) → wpList Tryd.prog ops Q rest (a.put o.dst (.tuple #[.bool false])) w)
    (hMore : ∀ y w', y ∈ l → y.sN ∉ seen → It w' r gN since (seen ++ [y.sN]) → Kp [r] w w' → (Instr.entry (.pointer (some ⟨r, 0, none⟩))).run Tryd.prog w' = .ok (.tuple #[.int .i64 y.b.near, .agg y.b.cells]) w' → wpList Tryd.prog ops Q rest (a.put o.dst (.tuple #[.bool true, .int .i64 y.b.near, .agg y.b.cells])) w') :
    wpList Tryd.prog ops Q (o :: rest) a w := by
  refine at_nextmap hg it hop hit h hi hrg (fun x hx => by obtain ⟨y, hy, rfl⟩ := List.mem_map.1 hx; exact hold y hy) hsc (by rw [List.map_map]; exact hn) (fun hall => hDone fun y hy => hall y.inN (List.mem_map_of_mem hy)) ?_
  intro x w' hx hs hI hk hen
  obtain ⟨y, hy, rfl⟩ := List.mem_map.1 hx
  exact hMore y w' hy hs hI hk hen
/-- What sorted makes of binds that the call owns, of a table's binds. -/
def SortsTo (B : List Bd) : Prop := ∀ (v : Value) (xs : List Bd) (b : Nat) (w : World), xs.Perm B → KB.Own 53 w b v xs → Calls Tryd.prog 55 #[v] w fun e w' => e = .returned v ∧ KB.Own 53 w' b v B ∧ w.grownBy w' v.ownBlock
set_option maxRecDepth 100000 in
set_option maxHeartbeats 2000000 in
theorem tall_any (gT gP gB gF gN : Nat) (s : PS) (l : List Te) (cF cN : Nat) (B : List Bd) (w : World) (h : Tab w gT gP gB gF gN s l cF cN) (p : (l.map Te.b).Perm B) (hnd : (l.map Te.sN).Nodup) (hB : B.length ≤ 65536) (hS : SortsTo B) :
    Calls Tryd.prog 29 #[.pointer (some ⟨gT, 0, none⟩)] w fun e w' => ∃ v, e = .returned v ∧ KB.Own 53 w' w.heap.size v B ∧ Ext w w' := by
  have c2 : w.cell? ⟨gT, 2, none⟩ = some (.map (some gN)) := h.ptr.cells 2
  have HM := Lib.hid h.nears
  have hNl := h.nears.lt
  have hll : l.length ≤ 65536 := by have := p.length_eq; simp at this; omega
  have HP := Lib.hid (And.intro p (And.intro hnd hS))
  clear h p hnd hS
  go_enter Tryd.func29, Tryd.ntmps29
  go_wp2_with (first | (at_range; refine at_map rfl _ 103 53 rfl HM.out rfl Tryd.underlying103 ?_; intro W0 hI0 E0 hs0))
  have g0 := W0.heap.size
  go_frame
  go_loopw [3] (fun v wr => ∃ d : List Te, Vis l d ∧ It wr w.heap.size gN cN (d.map Te.sN) ∧ KB.Own 53 wr (w.heap.size + 1) v (d.map Te.b) ∧ Ext w wr ∧ w.heap.size + 1 ≤ wr.heap.size) (fun _ wr => l.length - itSeen wr w.heap.size)
  case atStart => exact ⟨[], ⟨fun _ h => (by cases h), List.nodup_nil⟩, hI0, Kin.Own.nil _ _, E0, by omega⟩
  case round =>
    clear hI0 E0 hs0
    obtain ⟨d, hV, hI, ho, hE, hs⟩ := hrel
    have hcount := hI.count
    have HV := Lib.hid (And.intro hV (And.intro ho hE))
    have MN := HM.out.ext hE
    have hl := hV.len
    have hC : l.length - itSeen wr w.heap.size = l.length - d.length := by rw [hcount]; simp
    clear hV ho hE
    have hold : ∀ y ∈ l, y.sN < cN := fun y hy => MN.old y.inN (List.mem_map_of_mem hy)
    go_wp2_with (first | ((apply load_by rfl _ _ rfl _ rfl); (focus (with_reducible assumption))) | ((apply store_by rfl _ _ _ rfl _ rfl); (focus (with_reducible assumption)); (focus rfl)) | (at_next; refine at_nextT rfl _ rfl rfl MN hI (by omega) hold (Nat.le_refl _) HP.out.2.1 (fun hall => ?_) (fun y w1 hy hns hI1 hk1 hen => ?_); rotate_left; obtain ⟨⟨f, near, back, far, last⟩, sF, sN⟩ := y; have K8 := Blk.new w1 53 #[.int .i64 0, .int .i64 0, .int .i64 0, .int .i64 0, .int .i64 0, .int .i64 0, .int .i64 0, .int .i64 0, .int .i64 0, .int .i64 0, .int .i64 0, .int .i64 0, .int .i64 0, .int .i64 0, .int .i64 0, .int .i64 0, .int .i64 0, .int .i64 0, .int .i64 0, .int .i64 0, .int .i64 0, .int .i64 0, .int .i64 0]; have st := stoBd K8 ⟨f, near, back, far, last⟩; have K9 := K8.row (Bd.cells ⟨f, near, back, far, last⟩); have ld : (Instr.loadAt 53 (.pointer (some ⟨w1.heap.size, 0, none⟩))).run Tryd.prog _ = .ok (.agg #[.int .i64 f.kind, .int .i64 f.client.x0, .int .i64 f.client.x1, .int .i64 f.client.x2, .int .i64 f.client.x3, .int .i64 f.client.x4, .int .i64 f.client.x5, .int .i64 f.client.x6, .int .i64 f.client.x7, .int .i64 f.port, .int .i64 f.dst.x0, .int .i64 f.dst.x1, .int .i64 f.dst.x2, .int .i64 f.dst.x3, .int .i64 f.dst.x4, .int .i64 f.dst.x5, .int .i64 f.dst.x6, .int .i64 f.dst.x7, .int .i64 f.door, .int .i64 near, .int .i64 back, .int .i64 far, .int .i64 last]) _ := loaBd K9; rotate_right) | (at_builtin; refine Halt.out ?_))
    · have hp : d.Perm l := HV.out.1.all HP.out.2.1 hall
      have hE := HV.out.2.2
      have ho := HV.out.2.1
      refine (HP.out.2.2 u3 (d.map Te.b) (w.heap.size + 1) wr ((hp.map _).trans HP.out.1) ho).mono ?_
      rintro e W9 ⟨rfl, o9, g9⟩
      have hE9 : Ext w W9 := Below.grown hE g9 (by omega) (fun k hk => by have := (ho.lt k hk).1; omega)
      clear hall hp hE ho g9 hI MN hcount hC
      go_wp2_with fail
      go_returns
      exact ⟨_, rfl, o9.mono (Nat.le_succ _), hE9⟩
    · refine Halt.mk ?_
      have ho := HV.out.2.1
      have hE := HV.out.2.2
      have hV := HV.out.1.add hy hns
      have hlen := hV.len
      have hne : ∀ k, u3.ownBlock = some k → w.heap.size + 1 ≤ k := fun k hk => (ho.lt k hk).1
      have o1 := ho.rowed hk1.grown1 (fun k hk he => by have := hne k hk; cases he; omega)
      have hE1 : Ext w w1 := Below.kp hE hk1 (by omega) (fun g hg => by simp at hg; omega)
      have hs1 := hk1.size
      have E3 : Ext w1 _ := (((Ext.refl w1).alloc (.cells #[.int .i64 0, .int .i64 0, .int .i64 0, .int .i64 0, .int .i64 0, .int .i64 0, .int .i64 0, .int .i64 0, .int .i64 0, .int .i64 0, .int .i64 0, .int .i64 0, .int .i64 0, .int .i64 0, .int .i64 0, .int .i64 0, .int .i64 0, .int .i64 0, .int .i64 0, .int .i64 0, .int .i64 0, .int .i64 0, .int .i64 0] 53)).row (k := w1.heap.size) (Nat.le_refl _) (Bd.cells ⟨f, near, back, far, last⟩)).alloc (.cells #[.int .i64 f.kind, .int .i64 f.client.x0, .int .i64 f.client.x1, .int .i64 f.client.x2, .int .i64 f.client.x3, .int .i64 f.client.x4, .int .i64 f.client.x5, .int .i64 f.client.x6, .int .i64 f.client.x7, .int .i64 f.port, .int .i64 f.dst.x0, .int .i64 f.dst.x1, .int .i64 f.dst.x2, .int .i64 f.dst.x3, .int .i64 f.dst.x4, .int .i64 f.dst.x5, .int .i64 f.dst.x6, .int .i64 f.dst.x7, .int .i64 f.door, .int .i64 near, .int .i64 back, .int .i64 far, .int .i64 last] 53)
      have o3 := o1.ext E3
      have i3 := hI1.ext E3
      have hs3 := E3.size
      have hE3 := hE1.trans E3
      clear ho o1 hI1 hE1 E3 hI MN hcount hen K8 K9 st ld hE
      refine appBL rfl _ _ rfl (w.heap.size + 1) u3 (d.map Te.b) rfl o3 _ _ _ [⟨f, near, back, far, last⟩] rfl (Blk.binds1 (b := ⟨f, near, back, far, last⟩) (Blk.at _ _ _ (by simp))) (by simp at hlen ⊢; omega) (by omega) ?_
      intro v9 W9 o9 g9 b9 l9
      have i9 := i3.grown g9 (fun he => by have := hne _ he.symm; omega)
      have hE9 : Ext w W9 := Below.trans hE3 (b9.mono (Nat.le_succ _))
      have hs9 := g9.size
      have hc9 := i9.count
      clear o3 i3 g9 b9 l9
      go_wp2_with fail
      go_roundw
      case rel => exact ⟨d ++ [⟨⟨f, near, back, far, last⟩, sF, sN⟩], hV, by simpa using i9, by simpa using o9, hE9, by omega⟩
      case measure => rw [hC, hc9]; simp at hlen ⊢; omega
end Go.Proofs.YtefdhlmljocnkaaDoor
/- A table of binds that is new: bind.New, and All of it. Conditions: as each lemma states them. -/
namespace Go.Proofs.YtefdhlmljocnkaaDoor
open Go.RowKit
set_option maxRecDepth 100000 in
theorem len64_zero (w : World) : Calls Tryd.prog 116 #[.int .u64 0] w fun e w' => e = .returned (.int .i64 0) ∧ w' = w := by
  go_enter Tryd.func116, Tryd.ntmps116
  go_wp2
  go_returns
  exact ⟨ret_int (by decide +kernel), rfl⟩
set_option maxRecDepth 100000 in
theorem len_zero (w : World) : Calls Tryd.prog 90 #[.int .u64 0] w fun e w' => e = .returned (.int .i64 0) ∧ w' = w := by
  go_enter Tryd.func90, Tryd.ntmps90
  go_wp2_with fail
  refine (len64_zero w).mono ?_
  rintro e w' ⟨rfl, rfl⟩
  go_wp2_with fail
  go_returns
  exact ⟨rfl, rfl⟩
set_option maxRecDepth 100000 in
theorem isort_zero (f : Value) (w : World) : Calls Tryd.prog 107 #[.slice none 0 0, .int .i64 0, .int .i64 0, f] w fun e w' => e = .returned (.tuple #[]) ∧ w' = w := by
  go_enter Tryd.func107, Tryd.ntmps107
  go_wp2
  go_loop [8] (fun i => i = .int .i64 1) (fun _ => 0)
  case atStart => rfl
  case round =>
    obtain rfl := hrel
    go_wp2
    go_returns
    exact ⟨rfl, rfl⟩
set_option maxRecDepth 100000 in
theorem pdq_zero (f : Value) (w : World) : Calls Tryd.prog 89 #[.slice none 0 0, .int .i64 0, .int .i64 0, .int .i64 0, f] w fun e w' => e = .returned (.tuple #[]) ∧ w' = w := by
  go_enter Tryd.func89, Tryd.ntmps89
  go_wp2_with fail
  go_loop [1, 2, 3] (fun a b c => a = .int .i64 0 ∧ b = .int .i64 0 ∧ c = .int .i64 0) (fun _ _ _ => 0)
  case atStart => exact ⟨rfl, rfl, rfl⟩
  case round =>
    obtain ⟨rfl, rfl, rfl⟩ := hrel
    go_wp2_with fail
    refine (isort_zero f w).mono ?_
    rintro e w' ⟨rfl, rfl⟩
    go_wp2_with fail
    go_returns
    exact ⟨rfl, rfl⟩
set_option maxRecDepth 100000 in
theorem sort_zero (f : Value) (w : World) : Calls Tryd.prog 73 #[.slice none 0 0, f] w fun e w' => e = .returned (.tuple #[]) ∧ w' = w := by
  go_enter Tryd.func73, Tryd.ntmps73
  go_wp2_with fail
  refine (len_zero w).mono ?_
  rintro e w' ⟨rfl, rfl⟩
  go_wp2_with fail
  refine (pdq_zero f _).mono ?_
  rintro e w' ⟨rfl, rfl⟩
  go_wp2_with fail
  go_returns
  exact ⟨rfl, rfl⟩
set_option maxRecDepth 100000 in
theorem sorted_zero (w : World) : Calls Tryd.prog 55 #[.slice none 0 0] w fun e w' => e = .returned (.slice none 0 0) ∧ w' = w := by
  go_enter Tryd.func55, Tryd.ntmps55
  go_wp2_with fail
  refine (sort_zero _ w).mono ?_
  rintro e w' ⟨rfl, rfl⟩
  go_wp2_with fail
  go_returns
  exact ⟨rfl, rfl⟩
/-- A table of which nothing is bound. -/
structure Tab0 (w : World) (gT gP gB gF gN : Nat) (n : Nat) : Prop where
  ptr : Blk w gT 105 #[.pointer (some ⟨gP, 0, none⟩), .map (some gF), .map (some gN)]
  prt : Prt w gP gB (PS.zero n)
  flows : w.heap[gF]? = some (.map #[] 0)
  nears : w.heap[gN]? = some (.map #[] 0)
set_option maxRecDepth 100000 in
set_option maxHeartbeats 1000000 in
theorem bnew_ok (n : Nat) (w : World) (h0 : 1 ≤ n) (h1 : n ≤ 16) :
    Calls Tryd.prog 13 #[.int .i64 (n : Int)] w fun e w' => ∃ gT gP gB gF gN, e = .returned (.tuple #[.pointer (some ⟨gT, 0, none⟩), .nilIface]) ∧ Tab0 w' gT gP gB gF gN n ∧ Ext w w' ∧ w.heap.size ≤ gT ∧ w.heap.size ≤ gP ∧ w.heap.size ≤ gB ∧ w.heap.size ≤ gF ∧ w.heap.size ≤ gN := by
  have hmm := @run_makeMap Tryd.prog
  go_enter Tryd.func13, Tryd.ntmps13
  go_wp2_with fail
  refine (new_ok n w h0 h1).mono ?_
  rintro e W1 ⟨gP, gB, rfl, P1, E1, hgP, hgB⟩
  have hz1 := E1.size
  go_wp2_with fail
  go_returns
  have E2 := ((E1.alloc (.map #[] 0)).alloc (.map #[] 0)).alloc (.cells #[.pointer (some ⟨gP, 0, none⟩), .map (some W1.heap.size), .map (some (W1.heap.size + 1))] 105)
  refine ⟨W1.heap.size + 1 + 1, gP, gB, W1.heap.size, W1.heap.size + 1, rfl, ⟨?_, ((P1.alloc _).alloc _).alloc _, ?_, ?_⟩, E2, by omega, hgP, hgB, hz1, by omega⟩
  · exact Blk.at _ _ _ (by simp)
  · rw [heap_alloc_old _ _ (by simp; omega), heap_alloc_old _ _ (by simp)]
    exact heap_alloc_new _ _
  · rw [heap_alloc_old _ _ (by simp)]
    have := heap_alloc_new (W1.alloc (.map #[] 0)) (.map #[] 0)
    simpa using this
set_option maxRecDepth 100000 in
theorem bnew_no (n : Int) (w : World) (h : n < 1 ∨ 16 < n) : Calls Tryd.prog 13 #[.int .i64 n] w fun e w' => e = .returned (.tuple #[.pointer none, errv 1]) ∧ w' = w := by
  have HN := Lib.hid (new_no n w h)
  unfold errv at HN ⊢
  clear h
  go_enter Tryd.func13, Tryd.ntmps13
  go_wp2_with fail
  refine HN.out.mono ?_
  rintro e w' ⟨rfl, rfl⟩
  go_wp2_with fail
  go_returns
  exact ⟨rfl, rfl⟩
theorem next_none (w : World) (ty : TypeId) (g c : Nat) (h : w.heap[g]? = some (.map #[] c)) :
    (Instr.next (.pointer (some ⟨w.heap.size, 0, none⟩)) false ty).run Tryd.prog (w.alloc (.mapIter (some g) c #[] c)) = .ok (.tuple #[.bool false]) (w.alloc (.mapIter (some g) c #[] c)) := by
  rcases run_next_map (P := Tryd.prog) w ty g c c #[] #[] c h (fun x hx => by simp at hx) (Nat.le_refl _) with ⟨_, hr⟩ | ⟨e, he, _⟩
  · exact hr
  · simp [leftOf] at he
set_option maxRecDepth 100000 in
set_option maxHeartbeats 1000000 in
theorem all_zero (gT gP gB gF gN n : Nat) (w : World) (h : Tab0 w gT gP gB gF gN n) :
    Calls Tryd.prog 29 #[.pointer (some ⟨gT, 0, none⟩)] w fun e w' => e = .returned (.slice none 0 0) ∧ Ext w w' := by
  have c2 : w.cell? ⟨gT, 2, none⟩ = some (.map (some gN)) := h.ptr.cells 2
  have hr := run_range_map (P := Tryd.prog) w 103 3 53 gN #[] 0 Tryd.underlying103 h.nears
  have hn := fun ty => next_none w ty gN 0 h.nears
  have E1 : Ext w _ := (Ext.refl w).alloc (.mapIter (some gN) 0 #[] 0)
  clear h
  go_enter Tryd.func29, Tryd.ntmps29
  go_wp2_with fail
  go_loop [3] (fun v => v = .slice none 0 0) (fun _ => 0)
  case atStart => rfl
  case round =>
    obtain rfl := hrel
    go_wp2_with fail
    refine (sorted_zero _).mono ?_
    rintro e w' ⟨rfl, rfl⟩
    go_wp2_with fail
    go_returns
    exact ⟨rfl, E1⟩
end Go.Proofs.YtefdhlmljocnkaaDoor
/- bind.sorted: binds that the call owns, sorted by their ports in place. Conditions: as each lemma states them. -/
namespace Go.Proofs.YtefdhlmljocnkaaDoor
open Go.RowKit Go.Shelf Go.Lib Go.Sort
def sortBind_ren : Go.Shelf.Ren := ⟨fun | 6 => 73 | 15 => 90 | 14 => 89 | 28 => 115 | 29 => 116 | 20 => 107 | 21 => 108 | 22 => 109 | 23 => 110 | 24 => 111 | 25 => 112 | 26 => 113 | 27 => 114 | 46 => 134 | 47 => 135 | 48 => 136 | 49 => 137 | 50 => 138 | 57 => 146 | n => n, fun | 22 => 37 | 24 => 53 | 25 => 148 | 3 => 3 | 39 => 123 | 0 => 0 | 53 => 206 | 55 => 157 | 4 => 4 | 46 => 200 | 45 => 199 | 50 => 108 | 5 => 5 | 9 => 9 | 66 => 224 | 70 => 228 | 76 => 238 | 77 => 114 | n => n, fun | n => n⟩
theorem sortBind : Go.Proofs.SlLaysF0.n6 Tryd.prog sortBind_ren := {
  mixed := by kernel_rfl
  f6 := ⟨Tryd.f73.name, by decide, Tryd.func73.trans (congrArg some (by kernel_rfl))⟩
  f14 := ⟨Tryd.f89.name, by decide, Tryd.func89.trans (congrArg some (by kernel_rfl))⟩
  f15 := Tryd.func90.trans (congrArg some (by kernel_rfl))
  f20 := ⟨Tryd.f107.name, by decide, Tryd.func107.trans (congrArg some (by kernel_rfl))⟩
  f21 := ⟨Tryd.f108.name, by decide, Tryd.func108.trans (congrArg some (by kernel_rfl))⟩
  f22 := ⟨Tryd.f109.name, by decide, Tryd.func109.trans (congrArg some (by kernel_rfl))⟩
  f23 := ⟨Tryd.f110.name, by decide, Tryd.func110.trans (congrArg some (by kernel_rfl))⟩
  f24 := ⟨Tryd.f111.name, by decide, Tryd.func111.trans (congrArg some (by kernel_rfl))⟩
  f25 := ⟨Tryd.f112.name, by decide, Tryd.func112.trans (congrArg some (by kernel_rfl))⟩
  f26 := ⟨Tryd.f113.name, by decide, Tryd.func113.trans (congrArg some (by kernel_rfl))⟩
  f27 := ⟨Tryd.f114.name, by decide, Tryd.func114.trans (congrArg some (by kernel_rfl))⟩
  f28 := Tryd.func115.trans (congrArg some (by kernel_rfl))
  f29 := Tryd.func116.trans (congrArg some (by kernel_rfl))
  f46 := ⟨Tryd.f134.name, by decide, Tryd.func134.trans (congrArg some (by kernel_rfl))⟩
  f47 := Tryd.func135.trans (congrArg some (by kernel_rfl))
  f48 := Tryd.func136.trans (congrArg some (by kernel_rfl))
  f49 := ⟨Tryd.f137.name, by decide, Tryd.func137.trans (congrArg some (by kernel_rfl))⟩
  f50 := ⟨Tryd.f138.name, by decide, Tryd.func138.trans (congrArg some (by kernel_rfl))⟩
  f57 := ⟨Tryd.f146.name, by decide, Tryd.func146.trans (congrArg some (by kernel_rfl))⟩
  t0 := Tryd.underlying0
  a0 := Tryd.isAgg0
  z0 := Tryd.sizeOf0
  v0 := Tryd.zeroValue0
  t3 := Tryd.underlying3
  a3 := Tryd.isAgg3
  z3 := Tryd.sizeOf3
  v3 := Tryd.zeroValue3
  t4 := Tryd.underlying4
  a4 := Tryd.isAgg4
  z4 := Tryd.sizeOf4
  v4 := Tryd.zeroValue4
  t5 := Tryd.underlying5
  a5 := Tryd.isAgg5
  z5 := Tryd.sizeOf5
  v5 := Tryd.zeroValue5
  t9 := Tryd.underlying9
  a9 := Tryd.isAgg9
  z9 := Tryd.sizeOf9
  v9 := Tryd.zeroValue9
  t22 := Tryd.underlying37
  a22 := Tryd.isAgg37
  z22 := Tryd.sizeOf37
  v22 := Tryd.zeroValue37
  t25 := Tryd.underlying148
  a25 := Tryd.isAgg148
  z25 := Tryd.sizeOf148
  v25 := Tryd.zeroValue148
  t39 := Tryd.underlying123
  a39 := Tryd.isAgg123
  z39 := Tryd.sizeOf123
  v39 := Tryd.zeroValue123
  t45 := Tryd.underlying199
  a45 := Tryd.isAgg199
  z45 := Tryd.sizeOf199
  v45 := Tryd.zeroValue199
  t46 := Tryd.underlying200
  a46 := Tryd.isAgg200
  z46 := Tryd.sizeOf200
  v46 := Tryd.zeroValue200
  t50 := Tryd.underlying108
  a50 := Tryd.isAgg108
  z50 := Tryd.sizeOf108
  v50 := Tryd.zeroValue108
  t53 := Tryd.underlying206
  a53 := Tryd.isAgg206
  z53 := Tryd.sizeOf206
  v53 := Tryd.zeroValue206
  t55 := Tryd.underlying157
  a55 := Tryd.isAgg157
  z55 := Tryd.sizeOf157
  v55 := Tryd.zeroValue157
  t66 := Tryd.underlying224
  a66 := Tryd.isAgg224
  z66 := Tryd.sizeOf224
  v66 := Tryd.zeroValue224
  t70 := Tryd.underlying228
  a70 := Tryd.isAgg228
  z70 := Tryd.sizeOf228
  v70 := Tryd.zeroValue228
  t76 := Tryd.underlying238
  a76 := Tryd.isAgg238
  z76 := Tryd.sizeOf238
  v76 := Tryd.zeroValue238
  t77 := Tryd.underlying114
  a77 := Tryd.isAgg114
  z77 := Tryd.sizeOf114
  v77 := Tryd.zeroValue114 }


/-- A bind whose port is small in any case. -/
def Bd.cl (b : Bd) : Bd := { b with near := if 0 ≤ b.near ∧ b.near < 65536 then b.near else 0 }
theorem Bd.cl_range (b : Bd) : 0 ≤ b.cl.near ∧ b.cl.near < 65536 := by
  unfold Bd.cl
  dsimp only
  split
  · assumption
  · omega
theorem Bd.cl_eq {b : Bd} (h : 0 ≤ b.near ∧ b.near < 65536) : b.cl = b := by unfold Bd.cl; rw [if_pos h]
instance : Inhabited Bd := ⟨zeroBd⟩
def encB (b : Bd) : List Value := b.cl.cells.toList
def cmpB (a b : Bd) : Int := a.cl.near - b.cl.near
theorem ltB (x y : Bd) : ltOf cmpB x y = decide (x.cl.near < y.cl.near) := by
  unfold ltOf cmpB
  by_cases h : x.cl.near < y.cl.near
  · rw [decide_eq_true h, decide_eq_true (by omega)]
  · rw [decide_eq_false h, decide_eq_false (by omega)]
theorem swoB : SWO (ltOf cmpB) where
  irrefl x := by rw [ltB]; simp
  trans x y z h1 h2 := by rw [ltB] at *; simp at *; omega
  ntrans x y z h1 h2 := by rw [ltB] at *; simp at *; omega
set_option maxRecDepth 100000 in
set_option maxHeartbeats 2000000 in
theorem near_cmp (x y : Bd) (hx : 0 ≤ x.near ∧ x.near < 65536) (hy : 0 ≤ y.near ∧ y.near < 65536) (W : World) : Calls Tryd.prog 74 #[.agg x.cells, .agg y.cells] W fun e w' => e = .returned (.int .i64 (x.near - y.near)) ∧ ∃ q os', w' = grow (W.drewN q) os' := by
  have K1 := (Blk.new W 53 x.cells).alloc (.cells y.cells 53)
  have K2 := Blk.at (n := W.heap.size + 1) (W.alloc (.cells x.cells 53)) 53 y.cells (by simp)
  have c1 := K1.cells 19
  have c2 := K2.cells 19
  change _ = some (Value.int .i64 x.near) at c1
  change _ = some (Value.int .i64 y.near) at c2
  have wr : IntKind.i64.wrap (x.near - y.near) = x.near - y.near := IntWalk.i64_in _ (by omega)
  clear K1 K2
  go_enter Tryd.func74, Tryd.ntmps74
  go_wp2_with fail
  go_returns
  exact ⟨rfl, 0, _, by rw [alloc_eq_grow, alloc_eq_grow, grow_grow]; rfl⟩
theorem cmpLaysB (blk off size : Nat) (w : World) : CmpLays Tryd.prog 74 #[] encB 23 cmpB blk off size w :=
  fun _ _ _ _ x y => near_cmp x.cl y.cl x.cl_range y.cl_range _
/-- A row's cells, flat. -/
theorem flat_at {xs : List Bd} (hr : ∀ b ∈ xs, 0 ≤ b.near ∧ b.near < 65536) {j : Nat} (hj : j < xs.length * 23) : (KB.cells xs)[j]? = some (flatK encB 23 xs.toArray)[j]! := by
  have hq : j / 23 < xs.length := by omega
  have hm : j % 23 < 23 := Nat.mod_lt _ (by omega)
  have hx := List.getElem?_eq_getElem hq
  have h1 := KB.cells_at xs (j / 23) (j % 23) _ hx hm
  rw [show j / 23 * KB.sz + j % 23 = j by show j / 23 * 23 + j % 23 = j; omega] at h1
  rw [h1, get_flatK _ _ _ _ (by simpa using hj)]
  have hg : xs.toArray[j / 23]! = xs[j / 23] := by rw [getElem!_pos _ _ (by simpa using hq)]; rfl
  rw [hg]
  unfold encB
  rw [Bd.cl_eq (hr _ (List.getElem_mem hq))]
  have hl : (xs[j / 23].cells.toList).length = 23 := rfl
  show (xs[j / 23].cells.toList)[j % 23]? = _
  rw [List.getElem?_eq_getElem (by rw [hl]; exact hm), getElem!_pos _ _ (by rw [hl]; exact hm)]
theorem holdsB {w : World} {g n cap : Nat} {cur : Array Value} {t : TypeId} {xs : List Bd} (hr : ∀ b ∈ xs, 0 ≤ b.near ∧ b.near < 65536) (hn : xs.length = n) (hg : w.heap[g]? = some (.cells cur t (0, 0))) (hc : cur.toList.take (n * 23) = KB.cells xs) (_hs : cur.size = cap * 23) :
    HoldsK encB 23 w g 0 xs.toArray := by
  intro j hj
  rw [size_flatK] at hj
  have hj' : j < n * 23 := by simpa [hn] using hj
  have h1 := flat_at hr (by simpa using hj)
  rw [← hc, List.getElem?_take, if_pos hj', Array.getElem?_toList] at h1
  refine ⟨?_, ?_⟩
  · rw [Nat.zero_add, cell_of_row w g j cur t (0, 0) hg, h1]; rfl
  · rw [Nat.zero_add]; exact frozen_of_row w g j cur t hg
end Go.Proofs.YtefdhlmljocnkaaDoor
/- bind.sorted, whole; bind.All, whole. Conditions: as each lemma states them. -/
namespace Go.Proofs.YtefdhlmljocnkaaDoor
open Go.RowKit Go.Shelf Go.Lib Go.Sort
theorem sortW_heap (w : World) (g m : Nat) (d : Array Bd) (os : Array Obj) (hg : g < w.heap.size) :
    (∀ i, i < w.heap.size → i ≠ g → (sortWorldK encB 23 w g 0 m d os).heap[i]? = w.heap[i]?) ∧ (∀ cur t, w.heap[g]? = some (.cells cur t (0, 0)) → (sortWorldK encB 23 w g 0 m d os).heap[g]? = some (.cells (putCells id 0 (flatK encB 23 d) cur) t (0, 0))) ∧ w.heap.size ≤ (sortWorldK encB 23 w g 0 m d os).heap.size := by
  have hz : (putRowK encB 23 (Sort.ahead w m) g 0 d).heap = w.heap.modify g (onCells (putCells id 0 (flatK encB 23 d))) := rfl
  have hz1 : (putRowK encB 23 (Sort.ahead w m) g 0 d).heap.size = w.heap.size := by rw [hz, Array.size_modify]
  unfold sortWorldK
  refine ⟨fun i hi hne => ?_, fun cur t hc => ?_, ?_⟩
  · rw [heap_grow_old _ _ (by rw [hz1]; exact hi), hz, Array.getElem?_modify, if_neg (fun e => hne e.symm)]
  · rw [heap_grow_old _ _ (by rw [hz1]; exact hg), hz, Array.getElem?_modify, if_pos rfl, hc]
    rfl
  · rw [size_grow, hz1]; omega
theorem sortW_grown (w : World) (g m : Nat) (d : Array Bd) (os : Array Obj) (hg : g < w.heap.size) : w.grownBy (sortWorldK encB 23 w g 0 m d os) (some g) :=
  ⟨rfl, rfl, rfl, (sortW_heap w g m d os hg).2.2, fun i hi hne => (sortW_heap w g m d os hg).1 i hi fun e => hne (by rw [e])⟩
set_option maxRecDepth 100000 in
set_option maxHeartbeats 2000000 in
theorem sorts_to (B : List Bd) (hs : B.Pairwise fun a b => a.near < b.near) (hr : ∀ b ∈ B, 0 ≤ b.near ∧ b.near < 65536) (hB : B.length ≤ 65536) : SortsTo B := by
  intro v xs b w p ho
  have hrx : ∀ c ∈ xs, 0 ≤ c.near ∧ c.near < 65536 := fun c hc => hr c (p.mem_iff.1 hc)
  have hl := p.length_eq
  rcases ho.2 with ⟨rfl, h0⟩ | ⟨g, cap, cur, rfl, hbg, hh, hcap, hmax, hcs, htk⟩
  · obtain rfl : xs = [] := List.length_eq_zero_iff.1 h0
    obtain rfl : B = [] := List.length_eq_zero_iff.1 (by simpa using hl.symm)
    have HO := Lib.hid ho
    clear hl hs hr hB hrx p h0
    go_enter Tryd.func55, Tryd.ntmps55
    go_wp2_with fail
    refine (sort_zero _ w).mono ?_
    rintro e w' ⟨rfl, rfl⟩
    go_wp2_with fail
    go_returns
    exact ⟨rfl, HO.out, World.grownBy.refl _ _⟩
  · have hg : g < w.heap.size := (Array.getElem?_eq_some_iff.1 hh).1
    have eg : ∀ args w, (callFunc 74 args).run Tryd.prog w = .ok (.enter 74 args) w := enters_of Tryd.func74 (by kernel_rfl) rfl
    have hH := holdsB (n := xs.length) hrx rfl hh htk hcs
    have hcon := AnyQ.slices_SortFunc sortBind 23 Tryd.isAgg53 Tryd.sizeOf53 encB (fun _ => rfl) (fun x u hu => (Array.all_eq_true_iff_forall_mem.1 x.cl.one) u (by simpa [encB] using hu)) cmpB swoB 74 #[] g 0 cap xs.toArray w eg (cmpLaysB g 0 xs.toArray.size w) hH hg (by simp; omega)
    change Calls Tryd.prog 73 _ _ _ at hcon
    have HC := Lib.hid hcon
    have HX := Lib.hid (And.intro hrx (And.intro hh (And.intro hcs (And.intro htk hg))))
    have HS := Lib.hid (And.intro hs (And.intro p (And.intro hl hbg)))
    have HM := Lib.hid (And.intro hcap hmax)
    obtain ⟨n, hn⟩ : ∃ n, xs.length = n := ⟨_, rfl⟩
    have HN := Lib.hid hn
    clear hcon hs hr hB hrx p hh hcs htk hH ho hl hcap hmax
    rw [hn]
    go_enter Tryd.func55, Tryd.ntmps55
    go_wp2_with fail
    have hq := HC.out
    rw [show xs.toArray.size = n from HN.out] at hq
    refine hq.mono ?_
    rintro e w' ⟨rfl, d', m, os, hp, hso, rfl⟩
    clear hq
    have HD := Lib.hid (And.intro hp hso)
    have HW := Lib.hid (And.intro (sortW_grown w g m d' os HX.out.2.2.2.2) ((sortW_heap w g m d' os HX.out.2.2.2.2).2.1 cur _ HX.out.2.1))
    clear hp hso
    generalize sortWorldK encB 23 w g 0 m d' os = W at *
    go_wp2_with fail
    go_returns
    obtain ⟨⟨hsz, _, hperm⟩, hsrt⟩ := HD.out
    have hsz' : d'.size = n := hsz.trans HN.out
    have hperm' : d'.toList.Perm xs := by
      have e1 : d'.extract 0 n = d' := by rw [← hsz']; simp
      have e2 : xs.toArray.extract 0 n = xs.toArray := by rw [← HN.out]; simp
      rw [e1, e2] at hperm
      exact hperm
    have hmem : ∀ c ∈ d'.toList, 0 ≤ c.near ∧ c.near < 65536 := fun c hc => HX.out.1 c (hperm'.mem_iff.1 hc)
    have hnd : (d'.toList.map (·.near)).Nodup := by
      refine ((hperm'.trans HS.out.2.1).map (·.near)).symm.nodup ?_
      unfold List.Nodup
      rw [List.pairwise_map]
      exact HS.out.1.imp fun hlt he => by omega
    have hsd : d'.toList.Pairwise fun a b => a.near < b.near := by
      rw [List.pairwise_iff_getElem]
      intro i j hi hj hij
      have hi' : i < d'.size := by simpa using hi
      have hj' : j < d'.size := by simpa using hj
      have h1 := hsrt i j (Nat.zero_le _) hij (by rw [← hsz']; exact hj')
      rw [ltB, getElem!_pos d' i hi', getElem!_pos d' j hj'] at h1
      rw [Bd.cl_eq (hmem _ (by simp)), Bd.cl_eq (hmem _ (by simp))] at h1
      simp only [decide_eq_false_iff_not, Int.not_lt] at h1
      have h2 : d'[i].near ≠ d'[j].near := fun he => by
        have := (List.getElem?_inj (i := i) (j := j) (by simp only [List.length_map]; exact hi) hnd).1 (by simp [hi', hj', he])
        omega
      simp only [Array.getElem_toList]
      omega
    have hB : d'.toList = B := sorted_eq (hperm'.trans HS.out.2.1) hsd HS.out.1
    refine ⟨rfl, ?_, HW.out.1⟩
    have hBl : B.length = n := by rw [← hB]; simpa using hsz'
    refine ⟨by rw [KB.cells_length], .inr ⟨g, cap, putCells id 0 (flatK encB 23 d') cur, by rw [hBl], HS.out.2.2.2, HW.out.2, by rw [hBl]; exact HN.out ▸ HM.out.1, HM.out.2, ?_, ?_⟩⟩
    · unfold putCells
      rw [Array.size_mapIdx]
      exact HX.out.2.2.1
    · rw [hBl]
      refine List.ext_getElem? fun j => ?_
      have hcz := HX.out.2.2.1
      have hcp : n ≤ cap := HN.out ▸ HM.out.1
      have hnc : n * 23 ≤ cap * 23 := Nat.mul_le_mul_right 23 hcp
      by_cases hj : j < n * 23
      · have h1 := flat_at hmem (j := j) (by rw [Array.length_toList, hsz']; exact hj)
        rw [← hB, h1]
        rw [show KB.sz = 23 from rfl, List.getElem?_take, if_pos hj, Array.getElem?_toList]
        unfold putCells
        rw [Array.getElem?_mapIdx, Array.getElem?_eq_getElem (by have : cur.size = cap * 23 := hcz; omega)]
        simp only [Option.map_some, Nat.zero_le, true_and, Nat.zero_add, Nat.sub_zero, size_flatK, hsz', if_pos hj, id]
      · rw [List.getElem?_eq_none (by rw [List.length_take]; show min (n * 23) _ ≤ j; omega), List.getElem?_eq_none (by rw [KB.cells_length, hBl]; show n * 23 ≤ j; omega)]
/-- All, whole. -/
theorem Inv.range {s : PS} {B : List Bd} (h : Inv0 s B) (hn : s.n ≤ 16) : (∀ b ∈ B, 0 ≤ b.near ∧ b.near < 65536) ∧ B.length ≤ 128 := by
  refine ⟨fun b hb => ?_, ?_⟩
  · obtain ⟨i, h1, h2, _⟩ := h.near hb
    omega
  · have h1 := h.pa.many
    have h2 : s.used s.n ≤ 8 * s.n := Pl.cnt_le _ _ _
    rw [List.length_map] at h1
    omega
theorem all_any (G : TG) (s : PS) (B : List Bd) (w : World) (h : TB w G s B) :
    Calls Tryd.prog 29 #[.pointer (some ⟨G.gT, 0, none⟩)] w fun e w' => ∃ v, e = .returned v ∧ KB.Own 53 w' w.heap.size v B ∧ Ext w w' := by
  obtain ⟨l, cF, cN, ht, p, hnd⟩ := h.ex
  obtain ⟨h1, h2⟩ := Inv.range h.inv.toInv0 ht.prt.n1
  exact tall_any _ _ _ _ _ s l cF cN B w ht p hnd (by omega) (sorts_to B h.inv.sorted h1 (by omega))
end Go.Proofs.YtefdhlmljocnkaaDoor
/- bind.Make, whole. Conditions: as each lemma states them. -/
namespace Go.Proofs.YtefdhlmljocnkaaDoor
open Go.RowKit
theorem take_same {s : PS} {who : Six} (h : s.takeQ who ≠ 0) : s.take who = s := by unfold PS.take; rw [if_neg h]
/-- Make, whole. -/
theorem make_any (G : TG) (s : PS) (B : List Bd) (f : Flow) (back far now : Int) (w : World) (h : TB w G s B) :
    Calls Tryd.prog 18 #[.pointer (some ⟨G.gT, 0, none⟩), f.v, .int .i64 back, .int .i64 far, .int .i64 now] w fun e w' =>
      e = .returned (.tuple #[(if bMakeQ f back far now s B = 0 then newBd f back far now s else zeroBd).v, erv (bMakeQ f back far now s B)]) ∧ TB w' G (if bMakeQ f back far now s B = 0 then s.take f.client else s) (if bMakeQ f back far now s B = 0 then insB (newBd f back far now s) B else B) ∧ Kp G.mut w w' := by
  obtain ⟨l, cF, cN, ht, p, hnd⟩ := h.ex
  obtain ⟨h1, h2⟩ := flow_look h.inv.toInv0 p f
  have bad : ∀ q : Int, q ≠ 0 → bMakeQ f back far now s B = q → (∃ X : Prop, X → True) → Calls Tryd.prog 18 #[.pointer (some ⟨G.gT, 0, none⟩), f.v, .int .i64 back, .int .i64 far, .int .i64 now] w (fun e w' => e = .returned (.tuple #[zeroBd.v, errv q]) ∧ Ext w w') →
      Calls Tryd.prog 18 #[.pointer (some ⟨G.gT, 0, none⟩), f.v, .int .i64 back, .int .i64 far, .int .i64 now] w fun e w' =>
      e = .returned (.tuple #[(if bMakeQ f back far now s B = 0 then newBd f back far now s else zeroBd).v, erv (bMakeQ f back far now s B)]) ∧ TB w' G (if bMakeQ f back far now s B = 0 then s.take f.client else s) (if bMakeQ f back far now s B = 0 then insB (newBd f back far now s) B else B) ∧ Kp G.mut w w' := by
    intro q hq e _ hc
    rw [e, if_neg hq, if_neg hq, if_neg hq]
    refine hc.mono ?_
    rintro e w' ⟨rfl, E⟩
    exact ⟨by unfold erv; rw [if_neg hq], h.ext E, E.kp _⟩
  by_cases ho : okF f = true
  · have hf := okF_iff.1 ho
    by_cases ha : okA back = true
    · have hb := okA_iff.1 ha
      by_cases hw : w16 far = true
      · have hw' := w16_iff.1 hw
        by_cases hn : okT now = true
        · cases hff : findF f B with
          | some b =>
            obtain ⟨i, x, hx, hxb, hl⟩ := h1 b hff
            exact bad 8 (by decide) (by unfold bMakeQ; rw [if_pos ho, if_pos (by simp [ha, hw, hn]), hff]; rfl) ⟨True, id⟩ (tmake_clash _ _ _ _ _ s l cF cN f back far now w ht hf hb hw' hn i b.near hl)
          | none =>
            have e : bMakeQ f back far now s B = s.takeQ f.client := by unfold bMakeQ; rw [if_pos ho, if_pos (by simp [ha, hw, hn]), hff]; rfl
            rw [e]
            by_cases hq : s.takeQ f.client = 0
            · obtain ⟨hi, hno⟩ := h.inv.make hf hb hw' (okT_iff.1 hn) hff hq
              rw [if_pos hq, if_pos hq, if_pos hq]
              refine (tmake_ok _ _ _ _ _ s l cF cN f back far now w ht hf hb hw' hn (h2 hff) ((near_look h.inv.toInv0 p _).2 hno) hq).mono ?_
              rintro e w' ⟨rfl, k, t⟩
              refine ⟨by rw [hq]; rfl, ⟨⟨_, _, _, t, ?_, ?_⟩, hi⟩, k⟩
              · rw [List.map_append]
                exact ((p.append_right _).trans (List.perm_append_singleton _ _)).trans (insB_perm _ _).symm
              · rw [List.map_append, List.nodup_append]
                refine ⟨hnd, by simp, fun a ha b hb he => ?_⟩
                obtain ⟨x, hx, rfl⟩ := List.mem_map.1 ha
                have := ht.nears.old x.inN (List.mem_map_of_mem hx)
                have hx2 : x.sN < cN := this
                simp at hb
                omega
            · rw [if_neg hq, if_neg hq, if_neg hq]
              refine (tmake_full _ _ _ _ _ s l cF cN f back far now w ht hf hb hw' hn (h2 hff) hq).mono ?_
              rintro e w' ⟨rfl, k, q⟩
              rw [take_same hq] at q
              have ha := ht.apart
              refine ⟨by unfold erv; rw [if_neg hq], ⟨⟨l, cF, cN, ⟨ht.ptr.kp k (by simp at ha ⊢; omega), q, ht.flows.kp k (by simp at ha ⊢; omega), ht.nears.kp k (by simp at ha ⊢; omega), ha⟩, p, hnd⟩, h.inv⟩, k.mono (by simp [TG.mut])⟩
        · exact bad 1 (by decide) (by unfold bMakeQ; rw [if_pos ho, if_neg (by simp [hn])]) ⟨True, id⟩ (tmake_now _ _ _ _ _ s l cF cN f back far now w ht hf hb hw' (by simpa [okT] using hn))
      · exact bad 1 (by decide) (by unfold bMakeQ; rw [if_pos ho, if_neg (by simp [hw])]) ⟨True, id⟩ (tmake_far _ _ _ _ _ s l cF cN f back far now w ht hf hb fun h => hw (w16_iff.2 h))
    · exact bad 1 (by decide) (by unfold bMakeQ; rw [if_pos ho, if_neg (by simp [ha])]) ⟨True, id⟩ (tmake_back _ _ _ _ _ s l cF cN f back far now w ht hf fun h => ha (okA_iff.2 h))
  · exact bad 1 (by decide) (by unfold bMakeQ; rw [if_neg ho]) ⟨True, id⟩ (tmake_bad _ _ _ _ _ s l cF cN f back far now w ht fun h => ho (okF_iff.2 h))
end Go.Proofs.YtefdhlmljocnkaaDoor
/- bind.Expire up to its sorting. Conditions: as each lemma states them. -/
namespace Go.Proofs.YtefdhlmljocnkaaDoor
open Go.RowKit
/-- A bind that has expired, of entries. -/
def pastT (now : Int) (x : Te) : Bool := past now x.b
/-- Binds that are gone, of those that have come. -/
def goneT (now : Int) (d : List Te) : List Bd := (d.filter (pastT now)).map Te.b
/-- In the midst of Expire: of entries l0 d have come; l are left; s the ports. -/
structure Exp (now : Int) (s0 : PS) (l0 : List Te) (d l : List Te) (s : PS) : Prop where
  vis : Vis l0 d
  left : ∀ x ∈ l, x ∈ l0 ∧ (x.sN ∈ d.map Te.sN → pastT now x = false)
  all : ∀ x ∈ l0, x ∈ l ∨ (x ∈ d ∧ pastT now x = true)
  apart : ∀ x ∈ l, ¬ (x ∈ d ∧ pastT now x = true)
  nd : (l.map Te.sN).Nodup
  nd0 : (l0.map Te.sN).Nodup
  inv : Inv0 s (l.map Te.b)
  ports : s = s0.backs (goneT now d)
theorem Exp.start {now : Int} {s : PS} {l : List Te} (hnd : (l.map Te.sN).Nodup) (h : Inv0 s (l.map Te.b)) : Exp now s l [] l s :=
  ⟨⟨fun _ h => (by cases h), List.nodup_nil⟩, fun x hx => ⟨hx, fun h => (by cases h)⟩, fun x hx => .inl hx, fun x _ h => (by cases h.1), hnd, hnd, h, (PS.backs_nil s).symm⟩
/-- An entry that stays. -/
theorem Exp.stay {now : Int} {s0 s : PS} {l0 d l : List Te} (h : Exp now s0 l0 d l s) {x : Te} (hx : x ∈ l) (hn : x.sN ∉ d.map Te.sN) (hp : pastT now x = false) : Exp now s0 l0 (d ++ [x]) l s := by
  have hx0 := (h.left x hx).1
  refine ⟨h.vis.add hx0 hn, fun y hy => ⟨(h.left y hy).1, fun hm => ?_⟩, fun y hy => ?_, fun y hy hc => ?_, h.nd, h.nd0, h.inv, ?_⟩
  · rw [List.map_append] at hm
    rcases List.mem_append.1 hm with hm | hm
    · exact (h.left y hy).2 hm
    · simp at hm
      rw [stamp_inj h.nd0 (h.left y hy).1 hx0 hm]
      exact hp
  · rcases h.all y hy with hl | ⟨h1, h2⟩
    · exact .inl hl
    · exact .inr ⟨List.mem_append_left _ h1, h2⟩
  · rcases List.mem_append.1 hc.1 with h1 | h1
    · exact h.apart y hy ⟨h1, hc.2⟩
    · simp at h1
      rw [h1, hp] at hc
      exact absurd hc.2 (by decide)
  · rw [h.ports]
    unfold goneT
    rw [List.filter_append, List.filter_cons_of_neg (by rw [hp]; decide)]
    simp
/-- An entry that goes. -/
theorem Exp.go {now : Int} {s0 s : PS} {l0 d l : List Te} (h : Exp now s0 l0 d l s) {i : Nat} {x : Te} (hi : l[i]? = some x) (hn : x.sN ∉ d.map Te.sN) (hp : pastT now x = true) :
    Exp now s0 l0 (d ++ [x]) (l.eraseIdx i) (s.back x.b.near) ∧ s.has x.b.near = true ∧ goneT now (d ++ [x]) = goneT now d ++ [x.b] := by
  have hx : x ∈ l := List.mem_of_getElem? hi
  have hx0 := (h.left x hx).1
  have hlt := (List.getElem?_eq_some_iff.1 hi).1
  have hsub : (l.eraseIdx i).Sublist l := List.eraseIdx_sublist ..
  have hnx : x ∉ l.eraseIdx i := fun hm => by
    have hnd := nodup_of_map h.nd
    rw [List.eraseIdx_eq_take_drop_succ] at hm
    have e : l = l.take i ++ x :: l.drop (i + 1) := by
      rw [← (List.getElem?_eq_some_iff.1 hi).2, List.getElem_cons_drop, List.take_append_drop]
    rw [e, List.nodup_append] at hnd
    rcases List.mem_append.1 hm with h1 | h1
    · exact hnd.2.2 x h1 x (List.mem_cons_self ..) rfl
    · exact (List.nodup_cons.1 hnd.2.1).1 h1
  have hsplit : l = l.take i ++ x :: l.drop (i + 1) := by
    rw [← (List.getElem?_eq_some_iff.1 hi).2, List.getElem_cons_drop, List.take_append_drop]
  have hg : goneT now (d ++ [x]) = goneT now d ++ [x.b] := by
    unfold goneT
    rw [List.filter_append, List.filter_cons_of_pos hp]
    simp
  have hhas : s.has x.b.near = true := h.inv.has (List.mem_map_of_mem hx)
  refine ⟨⟨h.vis.add hx0 hn, fun y hy => ⟨(h.left y (hsub.subset hy)).1, fun hm => ?_⟩, fun y hy => ?_, fun y hy hc => ?_, h.nd.sublist (hsub.map _), h.nd0, ?_, ?_⟩, hhas, hg⟩
  · rw [List.map_append] at hm
    rcases List.mem_append.1 hm with hm | hm
    · exact (h.left y (hsub.subset hy)).2 hm
    · simp at hm
      rw [stamp_inj h.nd0 (h.left y (hsub.subset hy)).1 hx0 hm] at hy
      exact absurd hy hnx
  · rcases h.all y hy with hl | ⟨h1, h2⟩
    · by_cases he : y = x
      · subst he
        exact .inr ⟨by simp, hp⟩
      · left
        rw [List.eraseIdx_eq_take_drop_succ]
        rw [hsplit] at hl
        rcases List.mem_append.1 hl with h1 | h1
        · exact List.mem_append_left _ h1
        · rcases List.mem_cons.1 h1 with h1 | h1
          · exact absurd h1 he
          · exact List.mem_append_right _ h1
    · exact .inr ⟨List.mem_append_left _ h1, h2⟩
  · rcases List.mem_append.1 hc.1 with h1 | h1
    · exact h.apart y (hsub.subset hy) ⟨h1, hc.2⟩
    · simp at h1
      rw [h1] at hy
      exact absurd hy hnx
  · have h1 := h.inv
    rw [hsplit, List.map_append, List.map_cons] at h1
    have h2 := h1.drop
    rw [List.eraseIdx_eq_take_drop_succ, List.map_append]
    exact h2
  · rw [hg, h.ports]
    rw [h.ports] at hhas
    exact PS.backs_add s0 _ _ hhas
/-- At the end. -/
theorem Exp.done {now : Int} {s0 s : PS} {l0 d l : List Te} (h : Exp now s0 l0 d l s) (ha : ∀ x ∈ l, x.sN ∈ d.map Te.sN) {B : List Bd} (hB : (l0.map Te.b).Perm B) (hi : Inv s0 B) :
    (goneT now d).Perm (outB now B) ∧ (l.map Te.b).Perm (restB now B) ∧ s = s0.backs (outB now B) ∧ Inv s (restB now B) := by
  have hd : ∀ x ∈ l, pastT now x = false := fun x hx => (h.left x hx).2 (ha x hx)
  have p1 : l.Perm (l0.filter fun x => !pastT now x) := by
    rw [List.perm_ext_iff_of_nodup (nodup_of_map h.nd) ((nodup_of_map h.nd0).sublist List.filter_sublist)]
    intro x
    rw [List.mem_filter]
    constructor
    · intro hx
      exact ⟨(h.left x hx).1, by rw [hd x hx]; rfl⟩
    · rintro ⟨hx, hp⟩
      rcases h.all x hx with hl | ⟨_, h2⟩
      · exact hl
      · rw [h2] at hp; cases hp
  have p2 : (d.filter (pastT now)).Perm (l0.filter (pastT now)) := by
    rw [List.perm_ext_iff_of_nodup ((nodup_of_map h.vis.nd).sublist List.filter_sublist) ((nodup_of_map h.nd0).sublist List.filter_sublist)]
    intro x
    rw [List.mem_filter, List.mem_filter]
    constructor
    · rintro ⟨hx, hp⟩
      exact ⟨h.vis.sub x hx, hp⟩
    · rintro ⟨hx, hp⟩
      rcases h.all x hx with hl | ⟨h1, _⟩
      · rw [hd x hl] at hp; cases hp
      · exact ⟨h1, hp⟩
  have e1 : ∀ q : Bd → Bool, (l0.filter fun x => q x.b).map Te.b = (l0.map Te.b).filter q := fun q => by
    rw [List.filter_map]; rfl
  have q1 : (l.map Te.b).Perm (restB now B) := by
    have := p1.map Te.b
    have e2 : (l0.filter fun x => !pastT now x).map Te.b = (l0.map Te.b).filter (fun b => !past now b) := e1 (fun b => !past now b)
    rw [e2] at this
    exact this.trans (hB.filter _)
  have q2 : (goneT now d).Perm (outB now B) := by
    have := p2.map Te.b
    have e2 : (l0.filter (pastT now)).map Te.b = (l0.map Te.b).filter (past now) := e1 (past now)
    rw [e2] at this
    exact this.trans (hB.filter _)
  refine ⟨q2, q1, by rw [h.ports]; exact PS.backs_perm s0 q2, h.inv.perm q1, ?_⟩
  exact hi.sorted.sublist List.filter_sublist
end Go.Proofs.YtefdhlmljocnkaaDoor
/- bind.Expire. Conditions: as each lemma states them. -/
namespace Go.Proofs.YtefdhlmljocnkaaDoor
open Go.RowKit
section
variable {κ : Type} {K : Keys κ} {w : World} {g : Nat} {l : List (Ent κ)} {clock : Nat}
variable {ops : Array Oper} {rest : List Oper} {o : Oper} {a : Act} {Q : Exit → Act → World → Prop}
/-- delete in a walk, of a key that is there. -/
theorem at_delmap (hg : o.guard = none) (m x : Operand) (t e : TypeId) (hop : o.op = Op.call { callee := Callee.builtin Builtin.delete, args := #[m, x], argTypes := #[t, K.t] }) (h : MapIs K w g l clock) (hF : K.Finds)
    (hm : a.eval m = .map (some g)) (hu : Tryd.prog.underlying t = some (.map K.t e)) (k : κ) (u : Value) (i : Nat) (hk : K.look k l 0 = some (i, u)) (hx : a.eval x = K.f k)
    (hK : wpList Tryd.prog ops Q rest (a.put o.dst (.tuple #[])) (putMap K w g (l.eraseIdx i) clock)) : wpList Tryd.prog ops Q (o :: rest) a w := by
  refine wpList_plain hg fun K' hK' => ?_
  have hrun := h.delete hF t e o.type hu k u i hk
  unfold Oper.wp
  simp [execOp, hop, resolve, invoke, builtin, hm, hx, hrun, Result.andThen]
  exact hK' _ _ hK
end
theorem erase_inN (l : List Te) (i : Nat) : (l.map Te.inN).eraseIdx i = (l.eraseIdx i).map Te.inN := by rw [← ChangeMaps.map_eraseIdx]
theorem erase_inF (l : List Te) (i : Nat) : (l.map Te.inF).eraseIdx i = (l.eraseIdx i).map Te.inF := by rw [← ChangeMaps.map_eraseIdx]
theorem Kp.grown {S : List Nat} {a b c : World} {row : Option Nat} (h : Kp S a b) (k : b.grownBy c row) (hr : ∀ g, row = some g → a.heap.size ≤ g) : Kp S a c :=
  ⟨k.os.trans h.os, k.tape.trans h.tape, k.output.trans h.output, Nat.le_trans h.size k.size, fun i hi hn => (k.block i (Nat.lt_of_lt_of_le hi h.size) (fun e => by have := hr i e.symm; omega)).trans (h.block i hi hn)⟩
theorem Kp.ofRow {b c : World} {row : Option Nat} (k : b.grownBy c row) : Kp row.toList b c := ⟨k.os, k.tape, k.output, k.size, fun i hi hn => k.block i hi fun e => hn (by rw [← e]; simp)⟩
theorem Tab.kp {w w' : World} {gT gP gB gF gN : Nat} {s : PS} {l : List Te} {cF cN : Nat} {S : List Nat} (h : Tab w gT gP gB gF gN s l cF cN) (k : Kp S w w') (h1 : gT ∉ S) (h2 : gP ∉ S) (h3 : gB ∉ S) (h4 : gF ∉ S) (h5 : gN ∉ S) : Tab w' gT gP gB gF gN s l cF cN :=
  ⟨h.ptr.kp k h1, h.prt.kp k h2 h3, h.flows.kp k h4, h.nears.kp k h5, h.apart⟩
theorem Kin.Own.kp {α : Type} {K : Kin α} {t : TypeId} {w w' : World} {B : Nat} {v : Value} {xs : List α} {S : List Nat} (h : K.Own t w B v xs) (k : Kp S w w') (hS : ∀ g, v.ownBlock = some g → g ∉ S) : K.Own t w' B v xs := by
  have hL := h.lt
  refine ⟨h.1, ?_⟩
  rcases h.2 with hn | ⟨g, cap, cur, rfl, hg, hh, rest⟩
  · exact .inl hn
  · exact .inr ⟨g, cap, cur, rfl, hg, by rw [k.block g (hL g rfl).2 (hS g rfl)]; exact hh, rest⟩
theorem loaBdF {w : World} {R : Nat} {b : Bd} (k : Blk w R 53 b.cells) :
    (Instr.loadAt 47 (.pointer (some ⟨R, 0, none⟩))).run Tryd.prog w = .ok (.agg b.flow.cells) w := by
  have e : b.cells = b.flow.cells ++ #[.int .i64 b.near, .int .i64 b.back, .int .i64 b.far, .int .i64 b.last] := rfl
  have := run_loadAt_mid (P := Tryd.prog) w R 0 47 b.flow.cells.toList _ (fun j v hv => by
    rw [Array.getElem?_toList] at hv
    rw [k.cells, Nat.zero_add, e, Array.getElem?_append_left (Array.getElem?_eq_some_iff.1 hv).1]; exact hv) Tryd.underlying47 rfl Tryd.sizeFlow
  simpa using this
set_option maxRecDepth 100000 in
set_option maxHeartbeats 2000000 in
theorem texp_bad (gT : Nat) (now : Int) (w : World) (hn : okT now = false) :
    Calls Tryd.prog 23 #[.pointer (some ⟨gT, 0, none⟩), .int .i64 now] w fun e w' => e = .returned (.tuple #[.slice none 0 0, errv 1]) ∧ w' = w := by
  unfold okT at hn
  unfold errv
  go_enter Tryd.func23, Tryd.ntmps23
  go_wp2_with fail
  refine (btick_any now _).mono ?_
  rintro e w' ⟨rfl, rfl⟩
  rw [hn]
  go_wp2_with fail
  go_returns
  exact ⟨rfl, rfl⟩
set_option maxRecDepth 100000 in
set_option maxHeartbeats 2000000 in
theorem texp_any (gT gP gB gF gN : Nat) (s : PS) (l : List Te) (cF cN : Nat) (B : List Bd) (now : Int) (w : World) (h : Tab w gT gP gB gF gN s l cF cN) (p : (l.map Te.b).Perm B) (hnd : (l.map Te.sN).Nodup) (hi : Inv s B) (hn : okT now = true) :
    Calls Tryd.prog 23 #[.pointer (some ⟨gT, 0, none⟩), .int .i64 now] w fun e w' => ∃ v l', e = .returned (.tuple #[v, .nilIface]) ∧ KB.Own 53 w' w.heap.size v (outB now B) ∧
      Tab w' gT gP gB gF gN (s.backs (outB now B)) l' cF cN ∧ (l'.map Te.b).Perm (restB now B) ∧ (l'.map Te.sN).Nodup ∧ Inv (s.backs (outB now B)) (restB now B) ∧ Kp [gB, gF, gN] w w' := by
  have c2 : w.cell? ⟨gT, 2, none⟩ = some (.map (some gN)) := h.ptr.cells 2
  have HM := Lib.hid h
  have hNl := h.nears.lt
  have hFl := h.flows.lt
  have hTl := h.ptr.lt
  have hPl := h.prt.ptr.lt
  have hBl := h.prt.row.lt
  obtain ⟨hr1, hr2⟩ := Inv.range hi.toInv0 h.prt.n1
  have hll : l.length ≤ 128 := by have := p.length_eq; simp at this; omega
  have hS : SortsTo (outB now B) := sorts_to _ (hi.sorted.sublist List.filter_sublist) (fun b hb => hr1 b (List.mem_filter.1 hb).1) (by have := List.length_filter_le (past now) B; unfold outB; omega)
  have HE0 := Lib.hid (Exp.start (now := now) hnd (hi.toInv0.perm p.symm))
  have HP := Lib.hid (And.intro p (And.intro hi hS))
  have ht := okT_iff.1 hn
  have hN := hn
  unfold okT at hN
  have hap := h.apart
  have hTB : gT ≠ gB ∧ gT ≠ gF ∧ gT ≠ gN ∧ gP ≠ gB ∧ gP ≠ gF ∧ gP ≠ gN ∧ gB ≠ gF ∧ gB ≠ gN ∧ gF ≠ gN := by simp at hap; omega
  clear h p hnd hi hS hr1 hr2 hn
  go_enter Tryd.func23, Tryd.ntmps23
  go_wp2_with fail
  refine (btick_any now _).mono ?_
  rintro e w' ⟨rfl, rfl⟩
  rw [hN]
  go_wp2_with (first | (at_range; refine at_map rfl _ 103 53 rfl HM.out.nears rfl Tryd.underlying103 ?_; intro W0 hI0 E0 hs0))
  go_frame
  go_loopw [6] (fun v wr => ∃ (d l1 : List Te) (s1 : PS), Exp now s l d l1 s1 ∧ It wr w'.heap.size gN cN (d.map Te.sN) ∧ KB.Own 53 wr (w'.heap.size + 1) v (goneT now d) ∧ Tab wr gT gP gB gF gN s1 l1 cF cN ∧ Kp [gB, gF, gN] w' wr ∧ w'.heap.size + 1 ≤ wr.heap.size) (fun _ wr => l.length - itSeen wr w'.heap.size)
  case atStart => 
    have kk := E0.kp [gB, gF, gN]
    have t0 := HM.out
    exact ⟨[], l, s, HE0.out, hI0, Kin.Own.nil _ _, ⟨t0.ptr.ext E0, t0.prt.ext E0, t0.flows.ext E0, t0.nears.ext E0, t0.apart⟩, kk, by omega⟩
  case round =>
    clear hI0 E0 hs0 c2
    obtain ⟨d, l1, s1, hX, hI, ho, hT, hK, hs⟩ := hrel
    have hcount := hI.count
    have HV := Lib.hid (And.intro hX (And.intro ho (And.intro hT hK)))
    have MN := hT.nears
    have hl := hX.vis.len
    have hC : l.length - itSeen wr w'.heap.size = l.length - d.length := by rw [hcount]; simp
    have hold : ∀ y ∈ l1, y.sN < cN := fun y hy => MN.old y.inN (List.mem_map_of_mem hy)
    have hnd1 := hX.nd
    clear hX ho hT hK
    go_upto_region 8 with (first | ((apply store_by rfl _ _ _ rfl _ rfl); (focus (with_reducible assumption)); (focus rfl)) | (at_next; refine at_nextT rfl _ rfl rfl MN hI (by omega) hold (Nat.le_refl _) hnd1 (fun hall => ?_) (fun y w1 hy hns hI1 hk1 hen => ?_); rotate_left; have K8 := Blk.new w1 53 #[.int .i64 0, .int .i64 0, .int .i64 0, .int .i64 0, .int .i64 0, .int .i64 0, .int .i64 0, .int .i64 0, .int .i64 0, .int .i64 0, .int .i64 0, .int .i64 0, .int .i64 0, .int .i64 0, .int .i64 0, .int .i64 0, .int .i64 0, .int .i64 0, .int .i64 0, .int .i64 0, .int .i64 0, .int .i64 0, .int .i64 0]; have st := stoBd K8 y.b; rotate_right))
    · obtain ⟨q1, q2, q3, q4⟩ := HV.out.1.done hall HP.out.1 HP.out.2.1
      have ho := HV.out.2.1
      have hT := HV.out.2.2.1
      have hnd2 := hnd1
      have hK := HV.out.2.2.2
      rw [q3] at hT q4
      refine (HP.out.2.2 u6 (goneT now d) (w'.heap.size + 1) wr q1 ho).mono ?_
      rintro e W9 ⟨rfl, o9, g9⟩
      have hlo : ∀ k, u6.ownBlock = some k → w'.heap.size + 1 ≤ k := fun k hk => (ho.lt k hk).1
      have hnl : ∀ g, g < w'.heap.size → g ∉ u6.ownBlock.toList := fun g hg hm => by
        have := hlo g (by simpa using hm); omega
      have t9 := hT.kp (Kp.ofRow g9) (hnl _ hTl) (hnl _ hPl) (hnl _ hBl) (hnl _ hFl) (hnl _ hNl)
      have k9 := hK.grown g9 (fun g hg => by have := hlo g hg; omega)
      have HF := Lib.hid (And.intro o9 (And.intro t9 (And.intro k9 (And.intro q2 (And.intro hnd2 q4)))))
      clear hall ho hT hK g9 hI MN hcount hC o9 t9 k9 q1 q2 q3 q4 hnl hlo hold hnd1 hnd2 hl
      go_wp2_with fail
      go_returns
      exact ⟨_, _, rfl, HF.out.1.mono (Nat.le_succ _), HF.out.2.1, HF.out.2.2.2.1, HF.out.2.2.2.2.1, HF.out.2.2.2.2.2, HF.out.2.2.1⟩
    · have K9 := K8.row y.b.cells
      have E2 : Ext w1 _ := ((Ext.refl w1).alloc (.cells #[.int .i64 0, .int .i64 0, .int .i64 0, .int .i64 0, .int .i64 0, .int .i64 0, .int .i64 0, .int .i64 0, .int .i64 0, .int .i64 0, .int .i64 0, .int .i64 0, .int .i64 0, .int .i64 0, .int .i64 0, .int .i64 0, .int .i64 0, .int .i64 0, .int .i64 0, .int .i64 0, .int .i64 0, .int .i64 0, .int .i64 0] 53)).row (k := w1.heap.size) (Nat.le_refl _) y.b.cells
      refine at_worldE (fun W => Ext w1 W ∧ Blk W w1.heap.size 53 y.b.cells) ⟨E2, K9⟩ ?_
      clear K8 K9 st E2 hen
      rintro W2 ⟨E2, K2⟩
      obtain ⟨hX, ho, hT, hK⟩ := HV.out
      have hs1 := hk1.size
      have hs2 := E2.size
      have hlo : ∀ k, u6.ownBlock = some k → w'.heap.size + 1 ≤ k := fun k hk => (ho.lt k hk).1
      have o2 := (ho.rowed hk1.grown1 (fun k hk he => by have := hlo k hk; cases he; omega)).ext E2
      have i2 := hI1.ext E2
      have t2 := (hT.kp hk1 (by simp; omega) (by simp; omega) (by simp; omega) (by simp; omega) (by simp; omega)).kp (E2.kp []) (by simp) (by simp) (by simp) (by simp) (by simp)
      have k2 : Kp [gB, gF, gN] w' W2 := (hK.grown hk1.grown1 (fun g hg => by cases hg; omega)).andExt E2
      have hok := hX.inv.ok y.b (List.mem_map_of_mem hy)
      have hlast := hok.2.2.2
      have hIs : IsInt y.b.near := by
        obtain ⟨j, hj, hj2, _⟩ := hX.inv.near (List.mem_map_of_mem hy)
        have := t2.prt.n1
        unfold IsInt
        omega
      have c0 := K2.cells 0
      have cl := K2.cells 22
      change _ = some (Value.int .i64 y.b.flow.kind) at c0
      change _ = some (Value.int .i64 y.b.last) at cl
      have wl : IntKind.i64.wrap (now - y.b.last) = now - y.b.last := IntWalk.i64_in _ (by omega)
      have cT2 : W2.cell? ⟨gT, 2, none⟩ = some (.map (some gN)) := t2.ptr.cells 2
      have HX := Lib.hid hX
      have HO := Lib.hid (And.intro o2 (And.intro i2 (And.intro t2 (And.intro k2 K2))))
      clear hX ho hT hK o2 i2 t2 k2 hI1 hk1 hI MN HV hold hnd1 E2 hok hlast K2 hcount
      have hpe : past now y.b = !decide (now - y.b.last < life y.b.flow.kind) := rfl
      by_cases hk : y.b.flow.kind = 6
      case' pos =>
        have b1 : decide (y.b.flow.kind = 6) = true := decide_eq_true hk
        have b2 : (y.b.flow.kind == 6) = true := by rw [hk]; rfl
        have hp' : ∀ q, past now y.b = q → decide (now - y.b.last < 100) = !q := fun q hq => by rw [← hq, hpe, show life y.b.flow.kind = 100 from if_pos hk, Bool.not_not]
      case' neg =>
        have b1 : decide (y.b.flow.kind = 6) = false := decide_eq_false hk
        have b2 : (y.b.flow.kind == 6) = false := by simpa using hk
        have hp' : ∀ q, past now y.b = q → decide (now - y.b.last < 30) = !q := fun q hq => by rw [← hq, hpe, show life y.b.flow.kind = 30 from if_neg hk, Bool.not_not]
      all_goals
        clear hk hpe
        go_upto_region 10 with (fail)
        clear b1 b2 c0
        cases hp : past now y.b
        case false =>
          have d1 := hp' false hp
          rw [Bool.not_false] at d1
          have HR := Lib.hid (HX.out.stay hy hns hp)
          have hln := HR.out.vis.len
          have hg : goneT now (d ++ [y]) = goneT now d := by
            unfold goneT
            rw [List.filter_append, List.filter_cons_of_neg (by unfold pastT; rw [hp]; decide)]
            simp
          have HG := Lib.hid hg
          clear hp' hp hg cT2
          go_wp2_with fail
          go_roundw
          case rel => exact ⟨d ++ [y], l1, s1, HR.out, by simpa using HO.out.2.1, by rw [HG.out]; exact HO.out.1, HO.out.2.2.1, HO.out.2.2.2.1, by omega⟩
          case measure => rw [hC, HO.out.2.1.count]; simp at hln ⊢; omega
        case true =>
          have d1 := hp' true hp
          rw [Bool.not_true] at d1
          obtain ⟨i, hiy⟩ := List.mem_iff_getElem?.1 hy
          have HR := Lib.hid (HX.out.go hiy hns hp)
          clear hp' hp
          have hln := HR.out.1.vis.len
          have LN : keyI.look y.b.near (l1.map Te.inN) 0 = some (i, y.b.v) := by
            have := look_here (K := keyI) (x := y.inN) (o := 0) (i := i) (l := l1.map Te.inN) (by
              rw [List.map_map]
              have := HX.out.inv.nears
              rw [List.map_map] at this
              exact this) (by rw [List.getElem?_map, hiy]; rfl)
            rw [Nat.zero_add] at this
            exact this
          have LF : keyF.look y.b.flow (l1.map Te.inF) 0 = some (i, .int .i64 y.b.near) := by
            have := look_here (K := keyF) (x := y.inF) (o := 0) (i := i) (l := l1.map Te.inF) (by
              rw [List.map_map]
              have := HX.out.inv.flows
              rw [List.map_map] at this
              exact this) (by rw [List.getElem?_map, hiy]; rfl)
            rw [Nat.zero_add] at this
            exact this
          have N2 := HO.out.2.2.1.nears
          have hgv : s1.giveQ y.b.near = 0 := by unfold PS.giveQ; rw [if_pos HR.out.2.1]
          have K2 := HO.out.2.2.2.2
          go_upto_region 12 with (first | (refine at_delmap rfl _ _ 103 53 rfl N2 keyI_finds rfl Tryd.underlying103 y.b.near y.b.v i LN rfl ?_))
          have hne : w1.heap.size ≠ gN := by omega
          have N3 := N2.put ((l1.map Te.inN).eraseIdx i) cN (fun x hx => N2.old x ((List.eraseIdx_sublist ..).subset hx))
          have k3 : Kp [gN] W2 (putMap keyI W2 gN ((l1.map Te.inN).eraseIdx i) cN) := (Kp.refl _ W2).put (by simp) _ _
          refine at_worldE (fun W => MapIs keyI W gN ((l1.map Te.inN).eraseIdx i) cN ∧ Kp [gN] W2 W) ⟨N3, k3⟩ ?_
          clear N3 k3 N2 d1 wl cl cT2
          rintro W3 ⟨N3, k3⟩
          have BT := HO.out.2.2.1.ptr.kp k3 (by simp; omega)
          have cT1 : W3.cell? ⟨gT, 1, none⟩ = some (.map (some gF)) := BT.cells 1
          have K3 := K2.kp k3 (by simp; omega)
          have F3 := HO.out.2.2.1.flows.kp k3 (by simp; omega)
          have cT1d : W3.drew.cell? ⟨gT, 1, none⟩ = some (.map (some gF)) := cT1
          refine wp_region_held_drew (S := (fun w' => w'.cell? ⟨gT, 1, none⟩ = some (.map (some gF)) ∧ Blk w' w1.heap.size 53 y.b.cells)) (by kernel_rfl) ⟨cT1d, Blk.drew K3⟩ (fun hS0 => ?_)
          have F4 := F3.drewN 1
          have N4 := N3.drewN 1
          have k4 := k3.drew
          change MapIs keyF W3.drew _ _ _ at F4
          change MapIs keyI W3.drew _ _ _ at N4
          clear K2 K3 N3 F3 k3 BT cT1 cT1d
          generalize W3.drew = V at *
          (refine wpAnyH_take (i := 0) (v := ?_) rfl (by kernel_rfl) (by kernel_rfl) (by kernel_rfl) (fun _ _ _ h => h) (Or.inl ⟨by rfl, ?_⟩) (by assumption) ?_; rotate_left; focus (intro w hSw; (try dsimp only at hSw); go_simp; try with_reducible rfl); try simp only [Act.put, List.getElem_toArray, List.getElem_cons_succ, List.getElem_cons_zero, List.setIfInBounds_toArray, List.set_cons_zero, List.set_cons_succ])
          (refine wpAnyH_take (i := 1) (v := ?_) rfl (by kernel_rfl) (by kernel_rfl) (by kernel_rfl) (fun _ _ _ h => h) (Or.inl ⟨by rfl, ?_⟩) (by assumption) ?_; rotate_left; focus (intro w hSw; (try dsimp only at hSw); go_simp; try with_reducible rfl); try simp only [Act.put, List.getElem_toArray, List.getElem_cons_succ, List.getElem_cons_zero, List.setIfInBounds_toArray, List.set_cons_zero, List.set_cons_succ])
          (refine wpAnyH_take (i := 2) (v := ?_) rfl (by kernel_rfl) (by kernel_rfl) (by kernel_rfl) (fun _ _ _ h => h) (Or.inl ⟨by rfl, ?_⟩) (by assumption) ?_; rotate_left; focus (intro w hSw; (try dsimp only at hSw); go_simp; try with_reducible rfl); try simp only [Act.put, List.getElem_toArray, List.getElem_cons_succ, List.getElem_cons_zero, List.setIfInBounds_toArray, List.set_cons_zero, List.set_cons_succ])
          (refine wpAnyH_take (i := 3) (v := ?_) rfl (by kernel_rfl) (by kernel_rfl) (by kernel_rfl) (fun _ _ _ h => h) (Or.inl ⟨by rfl, ?_⟩) (by assumption) ?_; rotate_left; focus (intro w hSw; (try dsimp only at hSw); go_simp; try with_reducible rfl); try simp only [Act.put, List.getElem_toArray, List.getElem_cons_succ, List.getElem_cons_zero, List.setIfInBounds_toArray, List.set_cons_zero, List.set_cons_succ])
          (refine wpAnyH_take (i := 4) (v := ?_) rfl (by kernel_rfl) (by kernel_rfl) (by kernel_rfl) (fun _ _ _ h => h) (Or.inl ⟨by rfl, ?_⟩) (by assumption) ?_; rotate_left; focus (intro w hSw; (try dsimp only at hSw); go_simp; try with_reducible rfl); try simp only [Act.put, List.getElem_toArray, List.getElem_cons_succ, List.getElem_cons_zero, List.setIfInBounds_toArray, List.set_cons_zero, List.set_cons_succ])
          refine wpAnyH_take (i := 5) rfl (by kernel_rfl) (by kernel_rfl) (by kernel_rfl) (fun _ _ _ h => h) (Or.inl ⟨by rfl, fun W hS => exec_load rfl rfl (loaBdF hS.2)⟩) (by assumption) ?_
          (try simp only [Act.put, List.getElem_toArray, List.getElem_cons_succ, List.getElem_cons_zero, List.setIfInBounds_toArray, List.set_cons_zero, List.set_cons_succ])
          (refine wpAnyH_ready (rs := [6]) (by kernel_rfl) (by simp) ?_; refine AllReadyH.cons rfl (fun K hK => ?_) AllReadyH.nil)
          have hu : (Builtin.delete_ #[102, 47] 0 #[.map (some gF), .agg y.b.flow.cells]).run Tryd.prog V = .ok (.tuple #[]) _ := F4.delete keyF_finds 102 3 0 Tryd.underlying102 y.b.flow (.int .i64 y.b.near) i LF
          go_simp
          have F5 := F4.put ((l1.map Te.inF).eraseIdx i) cF (fun x hx => F4.old x ((List.eraseIdx_sublist ..).subset hx))
          have k5 : Kp [gF] V (putMap keyF V gF ((l1.map Te.inF).eraseIdx i) cF) := (Kp.refl _ V).put (by simp) _ _
          have S5 := hS0.2.kp k5 (by simp; omega)
          refine hK.out _ _ ⟨(World.cell?_of_block (putMap_other keyF V gF _ _ hTB.2.1)).trans hS0.1, S5⟩ ?_
          clear hK K hu hS0
          intro hS
          refine wpAnyH_done (by kernel_rfl) ?_ _
          have N5 := N4.kp k5 (by simp; omega)
          have k6 : Kp [gF, gN] W2 (putMap keyF V gF ((l1.map Te.inF).eraseIdx i) cF) := (k4.mono (by simp)).trans (k5.mono (by simp))
          clear F4 N4 k4 k5 hS
          generalize putMap keyF V gF ((l1.map Te.inF).eraseIdx i) cF = V5 at *
          have P5 := HO.out.2.2.1.prt.kp k6 (by simp; omega) (by simp; omega)
          have T5 := HO.out.2.2.1.ptr.kp k6 (by simp; omega)
          have cT0 : V5.cell? ⟨gT, 0, none⟩ = some (.pointer (some ⟨gP, 0, none⟩)) := T5.cells 0
          have hs6 := k6.size
          have E5 : ∀ g, g < W2.heap.size → g ≠ gF → g ≠ gN → V5.heap[g]? = W2.heap[g]? := fun g hg h1 h2 => k6.block g hg (by simp; exact ⟨h1, h2⟩)
          have HQ := Lib.hid (And.intro F5 (And.intro N5 (And.intro k6 (And.intro T5 S5))))
          have HGV := Lib.hid (give_any gP gB s1 y.b.near V5 P5 hIs)
          clear F5 N5 k6 T5 P5 S5 hIs LN LF
          go_wp2_with fail
          refine HGV.out.mono ?_
          rintro e V6 ⟨rfl, p6, g6⟩
          rw [hgv, erv_zero]
          have k7 := Kp.ofRow g6
          have K6 := HQ.out.2.2.2.2.only g6 (by omega)
          have ld : (Instr.loadAt 53 (.pointer (some ⟨w1.heap.size, 0, none⟩))).run Tryd.prog V6 = .ok (.agg #[.int .i64 y.b.flow.kind, .int .i64 y.b.flow.client.x0, .int .i64 y.b.flow.client.x1, .int .i64 y.b.flow.client.x2, .int .i64 y.b.flow.client.x3, .int .i64 y.b.flow.client.x4, .int .i64 y.b.flow.client.x5, .int .i64 y.b.flow.client.x6, .int .i64 y.b.flow.client.x7, .int .i64 y.b.flow.port, .int .i64 y.b.flow.dst.x0, .int .i64 y.b.flow.dst.x1, .int .i64 y.b.flow.dst.x2, .int .i64 y.b.flow.dst.x3, .int .i64 y.b.flow.dst.x4, .int .i64 y.b.flow.dst.x5, .int .i64 y.b.flow.dst.x6, .int .i64 y.b.flow.dst.x7, .int .i64 y.b.flow.door, .int .i64 y.b.near, .int .i64 y.b.back, .int .i64 y.b.far, .int .i64 y.b.last]) V6 := loaBd K6
          have HK6 := Lib.hid K6
          clear HGV K6
          go_wp2_with (first | ((apply load_by rfl _ _ rfl _ rfl); (focus (with_reducible assumption))) | (at_builtin; refine Halt.out ?_))
          refine Halt.mk ?_
          obtain ⟨F5, N5, k6, T5, S5⟩ := HQ.out
          have hlo : ∀ k, u6.ownBlock = some k → w'.heap.size + 1 ≤ k := fun k hk => (HO.out.1.lt k hk).1
          have hs7 := k7.size
          have ow6 := ((HO.out.1.kp k6 (fun g hg => by have := hlo g hg; simp; omega)).kp k7 (fun g hg => by have := hlo g hg; simp; omega))
          have i6 := (HO.out.2.1.kp k6 (by simp; omega)).kp k7 (by simp; omega)
          have T6 := T5.kp k7 (by simp; omega)
          have F6 := F5.kp k7 (by simp; omega)
          have N6 := N5.kp k7 (by simp; omega)
          have kk6 : Kp [gB, gF, gN] w' V6 := (HO.out.2.2.2.1.trans (k6.mono (by simp))).trans (k7.mono (by simp))
          have hap2 := HO.out.2.2.1.apart
          have hsz : (goneT now d).length ≤ 128 := by
            have h1 : (goneT now d).length ≤ d.length := by unfold goneT; rw [List.length_map]; exact List.length_filter_le _ _
            omega
          clear ld HQ k7 F5 N5 k6 T5 S5
          refine appBL rfl _ _ rfl (w'.heap.size + 1) u6 (goneT now d) rfl (ow6.ext ((Ext.refl V6).alloc _)) _ _ _ [y.b] rfl (Blk.binds1 (b := y.b) (Blk.new _ _ _)) (by omega) (by simp; omega) ?_
          intro v9 W9 o9 g9 b9 l9
          have hnl : ∀ g, g < w'.heap.size → g ∉ u6.ownBlock.toList := fun g hg hm => by
            have := hlo g (by simpa using hm); omega
          have E7 : Ext V6 _ := (Ext.refl V6).alloc (.cells #[.int .i64 y.b.flow.kind, .int .i64 y.b.flow.client.x0, .int .i64 y.b.flow.client.x1, .int .i64 y.b.flow.client.x2, .int .i64 y.b.flow.client.x3, .int .i64 y.b.flow.client.x4, .int .i64 y.b.flow.client.x5, .int .i64 y.b.flow.client.x6, .int .i64 y.b.flow.client.x7, .int .i64 y.b.flow.port, .int .i64 y.b.flow.dst.x0, .int .i64 y.b.flow.dst.x1, .int .i64 y.b.flow.dst.x2, .int .i64 y.b.flow.dst.x3, .int .i64 y.b.flow.dst.x4, .int .i64 y.b.flow.dst.x5, .int .i64 y.b.flow.dst.x6, .int .i64 y.b.flow.dst.x7, .int .i64 y.b.flow.door, .int .i64 y.b.near, .int .i64 y.b.back, .int .i64 y.b.far, .int .i64 y.b.last] 53)
          have kr := Kp.ofRow g9
          have i9 := (i6.ext E7).kp kr (fun hm => by have := hlo _ (by simpa using hm); omega)
          have t9 : Tab W9 gT gP gB gF gN (s1.back y.b.near) (l1.eraseIdx i) cF cN :=
            ⟨(T6.ext E7).kp kr (hnl _ hTl), (p6.ext E7).kp kr (hnl _ hPl) (hnl _ hBl), by rw [← erase_inF]; exact (F6.ext E7).kp kr (hnl _ hFl), by rw [← erase_inN]; exact (N6.ext E7).kp kr (hnl _ hNl), hap2⟩
          have k9 := (kk6.andExt E7).grown g9 (fun g hg => by have := hlo g hg; omega)
          have hs9 := (E7.size)
          have hs10 := g9.size
          have hc9 := i9.count
          have o10 : KB.Own 53 W9 (w'.heap.size + 1) v9 (goneT now (d ++ [y])) := by rw [HR.out.2.2]; exact o9
          have HF := Lib.hid (And.intro o10 (And.intro i9 (And.intro t9 k9)))
          clear o9 g9 b9 l9 E7 kr i9 t9 k9 o10 ow6 i6 T6 F6 N6 kk6 p6 g6 hnl hlo
          go_wp2_with fail
          go_roundw
          case rel => exact ⟨d ++ [y], l1.eraseIdx i, s1.back y.b.near, HR.out.1, by simpa using HF.out.2.1, HF.out.1, HF.out.2.2.1, HF.out.2.2.2, by omega⟩
          case measure => rw [hC, hc9]; simp at hln ⊢; omega
end Go.Proofs.YtefdhlmljocnkaaDoor
/- bind.New: a table that is new. Conditions: as the lemma states them. -/
namespace Go.Proofs.YtefdhlmljocnkaaDoor
open Go.RowKit
set_option maxRecDepth 100000 in
set_option maxHeartbeats 1000000 in
theorem bnewT (n : Nat) (w : World) (h0 : 1 ≤ n) (h1 : n ≤ 16) :
    Calls Tryd.prog 13 #[.int .i64 (n : Int)] w fun e w' => ∃ G : TG, e = .returned (.tuple #[.pointer (some ⟨G.gT, 0, none⟩), .nilIface]) ∧ TB w' G (PS.zero n) [] ∧ Ext w w' ∧ ∀ g ∈ G.all, w.heap.size ≤ g := by
  have hmm := @run_makeMap Tryd.prog
  go_enter Tryd.func13, Tryd.ntmps13
  go_wp2_with fail
  refine (new_ok n w h0 h1).mono ?_
  rintro e W1 ⟨gP, gB, rfl, P1, E1, hgP, hgB⟩
  have hz1 := E1.size
  go_wp2_with fail
  go_returns
  have E2 := ((E1.alloc (.map #[] 0)).alloc (.map #[] 0)).alloc (.cells #[.pointer (some ⟨gP, 0, none⟩), .map (some W1.heap.size), .map (some (W1.heap.size + 1))] 105)
  have hP := P1.ptr.lt
  have hB := P1.row.lt
  have hne := P1.ne
  refine ⟨⟨W1.heap.size + 1 + 1, gP, gB, W1.heap.size, W1.heap.size + 1⟩, rfl, ⟨⟨[], 0, 0, ⟨?_, ((P1.alloc _).alloc _).alloc _, ⟨?_, fun _ h => (by cases h)⟩, ⟨?_, fun _ h => (by cases h)⟩, ?_⟩, List.Perm.refl _, List.nodup_nil⟩, Inv.zero n⟩, E2, ?_⟩
  · exact Blk.at _ _ _ (by simp)
  · show (((W1.alloc (.map #[] 0)).alloc (.map #[] 0)).alloc _).heap[W1.heap.size]? = _
    rw [heap_alloc_old _ _ (by simp; omega), heap_alloc_old _ _ (by simp)]
    exact heap_alloc_new _ _
  · show (((W1.alloc (.map #[] 0)).alloc (.map #[] 0)).alloc _).heap[W1.heap.size + 1]? = _
    rw [heap_alloc_old _ _ (by simp)]
    have := heap_alloc_new (W1.alloc (.map #[] 0)) (.map #[] 0)
    simpa using this
  · simp; omega
  · intro g hg
    simp [TG.all] at hg
    omega
end Go.Proofs.YtefdhlmljocnkaaDoor
/- bind.Expire, whole. Conditions: as each lemma states them. -/
namespace Go.Proofs.YtefdhlmljocnkaaDoor
open Go.RowKit
/-- Expire, whole. -/
theorem expire_any (G : TG) (s : PS) (B : List Bd) (now : Int) (w : World) (h : TB w G s B) :
    Calls Tryd.prog 23 #[.pointer (some ⟨G.gT, 0, none⟩), .int .i64 now] w fun e w' => ∃ v, e = .returned (.tuple #[v, erv (if okT now = true then 0 else 1)]) ∧ KB.Own 53 w' w.heap.size v (if okT now = true then outB now B else []) ∧
      TB w' G (if okT now = true then s.backs (outB now B) else s) (if okT now = true then restB now B else B) ∧ Kp G.mut w w' := by
  obtain ⟨l, cF, cN, ht, p, hnd⟩ := h.ex
  cases hn : okT now
  case false =>
    refine (texp_bad G.gT now w hn).mono ?_
    rintro e w' ⟨rfl, rfl⟩
    exact ⟨_, rfl, Kin.Own.nil _ _, h, Kp.refl _ _⟩
  case true =>
    refine (texp_any _ _ _ _ _ s l cF cN B now w ht p hnd h.inv hn).mono ?_
    rintro e w' ⟨v, l', rfl, ho, ht', p', hnd', hi', k⟩
    exact ⟨v, rfl, ho, ⟨⟨l', cF, cN, ht', p', hnd'⟩, hi'⟩, k⟩
end Go.Proofs.YtefdhlmljocnkaaDoor
/- Two binds compared. Conditions: as each lemma states them. -/
namespace Go.Proofs.YtefdhlmljocnkaaDoor
open Go.RowKit
set_option maxRecDepth 100000 in
theorem run_flowEq9 (a b : Flow) (w : World) : (Op.equalIn 9999 47 (.agg a.cells) (.agg b.cells)).run Tryd.prog w = .ok (flowEq a b) w := by
  have hI : ∀ x y : Int, (Op.equalIn 9998 3 (.int .i64 x) (.int .i64 y)).run Tryd.prog w = .ok (x == y) w := fun x y => run_equalIn_int w 9997 3 .i64 .i64 x y Tryd.underlying3
  have hS : ∀ x y : Six, (Op.equalIn 9998 23 (.agg x.cells) (.agg y.cells)).run Tryd.prog w = .ok (sixEq x y) w := fun x y => run_sixEq x y 9996 w
  have hfs : (Tryd.prog.fieldsOf 47).toList.map (fun f => (f.type, f.offset)) = [(3, 0), (23, 1), (3, 9), (23, 10), (3, 18)] := by kernel_rfl
  have p0 : ∀ f : Flow, (part 3 f.cells 0).run Tryd.prog w = .ok (.int .i64 f.kind) w := fun f => by kernel_rfl
  have p1 : ∀ f : Flow, (part 23 f.cells 1).run Tryd.prog w = .ok (.agg f.client.cells) w := fun f => by kernel_rfl
  have p2 : ∀ f : Flow, (part 3 f.cells 9).run Tryd.prog w = .ok (.int .i64 f.port) w := fun f => by kernel_rfl
  have p3 : ∀ f : Flow, (part 23 f.cells 10).run Tryd.prog w = .ok (.agg f.dst.cells) w := fun f => by kernel_rfl
  have p4 : ∀ f : Flow, (part 3 f.cells 18).run Tryd.prog w = .ok (.int .i64 f.door) w := fun f => by kernel_rfl
  rw [run_equalIn_struct w 9998 47 a.cells b.cells (by kernel_rfl) (by kernel_rfl), eqFields_TO _ _ _ _ _ (by kernel_rfl), hfs]
  have := eqTO_step (p0 a) (p0 b) (hI _ _) (eqTO_step (p1 a) (p1 b) (hS _ _) (eqTO_step (p2 a) (p2 b) (hI _ _) (eqTO_step (p3 a) (p3 b) (hS _ _) (eqTO_step (r := []) (p := true) (p4 a) (p4 b) (hI _ _) rfl))))
  rw [this]
  unfold flowEq
  rw [Bool.and_true]
/-- Are two binds the same? -/
def bdEq (a b : Bd) : Bool := flowEq a.flow b.flow && ((a.near == b.near) && ((a.back == b.back) && ((a.far == b.far) && (a.last == b.last))))
theorem bdEq_iff (a b : Bd) : bdEq a b = true ↔ a = b := by
  unfold bdEq
  simp only [Bool.and_eq_true, beq_iff_eq, flowEq_iff]
  constructor
  · rintro ⟨h1, h2, h3, h4, h5⟩
    cases a; cases b
    simp_all
  · rintro rfl
    exact ⟨rfl, rfl, rfl, rfl, rfl⟩
set_option maxRecDepth 100000 in
theorem run_bdEq (a b : Bd) (w : World) : (Op.equalIn 10000 53 (.agg a.cells) (.agg b.cells)).run Tryd.prog w = .ok (bdEq a b) w := by
  have hI : ∀ x y : Int, (Op.equalIn 9999 3 (.int .i64 x) (.int .i64 y)).run Tryd.prog w = .ok (x == y) w := fun x y => run_equalIn_int w 9998 3 .i64 .i64 x y Tryd.underlying3
  have hF : ∀ x y : Flow, (Op.equalIn 9999 47 (.agg x.cells) (.agg y.cells)).run Tryd.prog w = .ok (flowEq x y) w := fun x y => run_flowEq9 x y w
  have hfs : (Tryd.prog.fieldsOf 53).toList.map (fun f => (f.type, f.offset)) = [(47, 0), (3, 19), (3, 20), (3, 21), (3, 22)] := by kernel_rfl
  have p0 : ∀ f : Bd, (part 47 f.cells 0).run Tryd.prog w = .ok (.agg f.flow.cells) w := fun f => by kernel_rfl
  have p1 : ∀ f : Bd, (part 3 f.cells 19).run Tryd.prog w = .ok (.int .i64 f.near) w := fun f => by kernel_rfl
  have p2 : ∀ f : Bd, (part 3 f.cells 20).run Tryd.prog w = .ok (.int .i64 f.back) w := fun f => by kernel_rfl
  have p3 : ∀ f : Bd, (part 3 f.cells 21).run Tryd.prog w = .ok (.int .i64 f.far) w := fun f => by kernel_rfl
  have p4 : ∀ f : Bd, (part 3 f.cells 22).run Tryd.prog w = .ok (.int .i64 f.last) w := fun f => by kernel_rfl
  rw [run_equalIn_struct w 9999 53 a.cells b.cells (by kernel_rfl) (by kernel_rfl), eqFields_TO _ _ _ _ _ (by kernel_rfl), hfs]
  have := eqTO_step (p0 a) (p0 b) (hF _ _) (eqTO_step (p1 a) (p1 b) (hI _ _) (eqTO_step (p2 a) (p2 b) (hI _ _) (eqTO_step (p3 a) (p3 b) (hI _ _) (eqTO_step (r := []) (p := true) (p4 a) (p4 b) (hI _ _) rfl))))
  rw [this]
  unfold bdEq
  rw [Bool.and_true]
end Go.Proofs.YtefdhlmljocnkaaDoor
/- The document's ports, on: Take. Conditions: as each lemma states them. -/
namespace Go.Proofs.YtefdhlmljocnkaaDoor
open Go.RowKit
/-- A place that is free in a block that is one's own; in a block of nobody. -/
def PS.mineAt (s : PS) (who : Six) (i : Nat) : Prop := s.tk i = false ∧ 0 < s.many (i / 8) ∧ s.own (i / 8) = who
def PS.freshAt (s : PS) (i : Nat) : Prop := s.tk i = false ∧ s.many (i / 8) = 0
theorem PS.mine_of {s : PS} {who : Six} {i : Nat} (h : s.mineAt who i) : s.mine who (i / 8) = true := by
  obtain ⟨h0, h1, h2⟩ := h
  have hle : s.many (i / 8) ≤ 8 := Pl.cnt_le _ _ _
  have h8 : s.many (i / 8) ≠ 8 := fun he => by
    have := Pl.cnt_full he (i % 8) (by omega)
    rw [show 8 * (i / 8) + i % 8 = i by omega, h0] at this
    cases this
  unfold PS.mine
  rw [h2, sixEq_self]
  simp
  omega
theorem PS.mine_low {s : PS} {who : Six} {k : Nat} (h : s.mine who k = true) : s.mineAt who (8 * k + s.low k) ∧ s.low k < 8 := by
  obtain ⟨h0, h1, h2⟩ := PS.mine_all h
  have hl := PS.low_lt h1
  have e : (8 * k + s.low k) / 8 = k := by omega
  refine ⟨⟨PA.low_free h1, ?_, ?_⟩, hl⟩
  · rw [e]; exact h0
  · rw [e]; exact h2
theorem PS.take_at0 {s : PS} {who : Six} {i : Nat} (ho : okS who = true) (hi : i < 8 * s.n) (h : s.mineAt who i) (hb : ∀ j, j < i → ¬ s.mineAt who j) : s.takeQ who = 0 ∧ PA.gets s who = i := by
  have hm := PS.mine_of h
  have hlt : ∀ k, k < i / 8 → s.mine who k = false := fun k hk => by
    cases hc : s.mine who k
    · rfl
    · obtain ⟨g, gl⟩ := PS.mine_low hc
      exact absurd g (hb _ (by omega))
  have hf : Pl.first (s.mine who) s.n = i / 8 := Pl.first_eq (by omega) hm hlt
  have hp : s.pick who = i / 8 := by unfold PS.pick; rw [hf, if_pos (by omega)]
  have hlow : s.low (i / 8) = i % 8 := by
    refine Pl.first_eq (p := fun j => !s.tk (8 * (i / 8) + j)) (by omega) ?_ (fun j hj => ?_)
    · show (!s.tk (8 * (i / 8) + i % 8)) = true
      rw [show 8 * (i / 8) + i % 8 = i by omega, h.1]
      rfl
    · show (!s.tk (8 * (i / 8) + j)) = false
      cases ht : s.tk (8 * (i / 8) + j)
      · have e : (8 * (i / 8) + j) / 8 = i / 8 := by omega
        exact absurd (⟨ht, by rw [e]; exact h.2.1, by rw [e]; exact h.2.2⟩ : s.mineAt who (8 * (i / 8) + j)) (hb _ (by omega))
      · rfl
  refine ⟨?_, ?_⟩
  · unfold PS.takeQ; rw [if_pos ho, hp, if_pos (by omega)]
  · unfold PA.gets; rw [hp, hlow]; omega
theorem PS.none_mine {s : PS} {who : Six} (h : ∀ j, j < 8 * s.n → ¬ s.mineAt who j) : ∀ k, k < s.n → s.mine who k = false := fun k hk => by
  cases hc : s.mine who k
  · rfl
  · obtain ⟨g, gl⟩ := PS.mine_low hc
    exact absurd g (h _ (by omega))
theorem PS.many_zero_at {s : PS} {k j : Nat} (h : s.many k = 0) (hj : j < 8) : s.freshAt (8 * k + j) := by
  have e : (8 * k + j) / 8 = k := by omega
  exact ⟨Pl.cnt_zero h j hj, by rw [e]; exact h⟩
theorem PS.take_at1 {s : PS} {who : Six} {i : Nat} (ho : okS who = true) (hno : ∀ j, j < 8 * s.n → ¬ s.mineAt who j) (hi : i < 8 * s.n) (h : s.freshAt i) (hb : ∀ j, j < i → ¬ s.freshAt j) : s.takeQ who = 0 ∧ PA.gets s who = i := by
  have h1 : Pl.first (s.mine who) s.n = s.n := Pl.first_none (PS.none_mine hno)
  have hz : i % 8 = 0 := by
    refine Decidable.byContradiction fun hne => ?_
    exact hb (8 * (i / 8) + 0) (by omega) (PS.many_zero_at h.2 (by omega))
  have hf : Pl.first s.fresh s.n = i / 8 := by
    refine Pl.first_eq (by omega) ?_ (fun k hk => ?_)
    · unfold PS.fresh; rw [h.2]; rfl
    · cases hc : s.fresh k
      · rfl
      · have hm : s.many k = 0 := by unfold PS.fresh at hc; simpa using hc
        exact absurd (PS.many_zero_at hm (show 0 < 8 by omega)) (hb _ (by omega))
  have hp : s.pick who = i / 8 := by unfold PS.pick; rw [h1, if_neg (by omega)]; exact hf
  have hlow : s.low (i / 8) = 0 := by
    refine Pl.first_eq (p := fun j => !s.tk (8 * (i / 8) + j)) (by omega) ?_ (fun j hj => by omega)
    show (!s.tk (8 * (i / 8) + 0)) = true
    rw [show 8 * (i / 8) + 0 = i by omega, h.1]
    rfl
  refine ⟨?_, ?_⟩
  · unfold PS.takeQ; rw [if_pos ho, hp, if_pos (by omega)]
  · unfold PA.gets; rw [hp, hlow]; omega
theorem PS.take_none {s : PS} {who : Six} (ho : okS who = true) (hno : ∀ j, j < 8 * s.n → ¬ s.mineAt who j) (hnf : ∀ j, j < 8 * s.n → ¬ s.freshAt j) : s.takeQ who = 3 ∧ s.takeN who = 0 ∧ s.take who = s := by
  refine PS.take_full ho (PS.none_mine hno) ?_
  have : Pl.first s.fresh s.n = s.n := Pl.first_none fun k hk => by
    cases hc : s.fresh k
    · rfl
    · have hm : s.many k = 0 := by unfold PS.fresh at hc; simpa using hc
      exact absurd (PS.many_zero_at hm (show 0 < 8 by omega)) (hnf _ (by omega))
  unfold PS.fr
  rw [this, if_neg (by omega)]
  omega
theorem Like.take {s : PS} {r : RS} (hL : Like s r) {who : Six} (hq : s.takeQ who = 0) : Like (s.take who) ((r.set (PA.gets s who) true).give (PA.gets s who) who) := by
  obtain ⟨hp, hm, ho⟩ := PA.pick_facts hq
  have hl := PS.low_lt hm
  have hd := PA.gets_div hl
  have ht : s.take who = (s.give (s.pick who) who).set (PA.gets s who) true := by unfold PS.take; rw [if_pos hq]; rfl
  rw [ht]
  generalize PA.gets s who = g at *
  refine ⟨hL.n, ?_, fun i hi hti => ?_⟩
  · show Pl.upd r.tk g true = Pl.upd s.tk g true
    rw [hL.tk]
  · have hti' : Pl.upd s.tk g true i = true := hti
    show Pl.upd r.wh g who i = Pl.upd s.own (s.pick who) who (i / 8)
    by_cases he : i = g
    · subst he
      rw [Pl.upd_same, hd, Pl.upd_same]
    · rw [Pl.upd_other _ _ he] at hti' ⊢
      rw [hL.wh i hi hti']
      by_cases hk : i / 8 = s.pick who
      · rw [hk, Pl.upd_same]
        rcases ho with ho | ho
        · exact ho
        · have h5 : s.tk (8 * s.pick who + i % 8) = false := Pl.cnt_zero (m := 8) ho (i % 8) (by omega)
          rw [show 8 * s.pick who + i % 8 = i by omega, hti'] at h5
          cases h5
      · rw [Pl.upd_other _ _ hk]
theorem PS.takeN_gets {s : PS} {who : Six} (hq : s.takeQ who = 0) : s.takeN who = 1024 + (PA.gets s who : Int) := by unfold PS.takeN PA.gets; rw [if_pos hq]; omega
end Go.Proofs.YtefdhlmljocnkaaDoor
/- The document's ports, on: Take walked. Conditions: as each lemma states them. -/
namespace Go.Proofs.YtefdhlmljocnkaaDoor
open Go.RowKit
theorem Two.drew {a b : World} {g h : Nat} (p : Two a b g h) : Two a b.drew g h := ⟨p.os, p.tape, p.output, p.size, p.block⟩
/-- What the document's Take looks for in its turn. -/
def PS.seek (s : PS) (who : Six) (t : Int) (i : Nat) : Prop := if t = 0 then s.mineAt who i else s.freshAt i
set_option maxRecDepth 100000 in
set_option maxHeartbeats 4000000 in
theorem rtake_any (gM gW gT : Nat) (s : PS) (r : RS) (who : Six) (w : World) (h : Rrt w gM gW gT r) (hL : Like s r) :
    Calls Tryd.prog 50 #[.pointer (some ⟨gM, 0, none⟩), who.v] w fun e w' => e = .returned (.tuple #[.int .i64 (s.takeN who), .int .i64 (s.takeQ who)]) ∧ (∃ r', Rrt w' gM gW gT r' ∧ Like (s.take who) r') ∧ Two w w' gW gT := by
  have hn := h.n1
  have hrn := hL.n
  have KW := Blk.new w 23 who.cells
  have lw := KW.six0
  have E0 := (Ext.refl w).alloc (.cells who.cells 23)
  have hMl := h.ptr.lt
  have hWl := h.who.lt
  have hTl := h.tak.lt
  cases ho : okS who
  case false =>
    obtain ⟨e1, e2, e3⟩ := PS.take_bad (s := s) ho
    rw [e1, e2, e3]
    have hs : sixE who = 1 := by unfold sixE; exact if_neg (by intro h; unfold okS at ho; rw [ho] at h; cases h)
    have HS := Lib.hid (fun W => hs ▸ sixFault_any who W)
    have HL := Lib.hid hL
    have HR := Lib.hid h
    clear e1 e2 e3 ho hs h hL KW
    go_enter Tryd.func50, Tryd.ntmps50
    go_wp2_with ((apply load_by rfl _ _ rfl _ rfl); (focus (with_reducible assumption)))
    refine (HS.out _).mono ?_
    rintro e W1 ⟨rfl, q1⟩
    have E1 := E0.trans q1
    go_wp2_with fail
    go_returns
    exact ⟨rfl, ⟨r, HR.out.ext E1, HL.out⟩, E1.two⟩
  have hs : sixE who = 0 := by unfold sixE; exact if_pos ho
  have HS := Lib.hid (fun W => hs ▸ sixFault_any who W)
  have HO := Lib.hid ho
  have HL := Lib.hid hL
  have HR := Lib.hid h
  have HTK := Lib.hid hL.tk
  clear ho hs h hL
  go_enter Tryd.func50, Tryd.ntmps50
  go_wp2_with ((apply load_by rfl _ _ rfl _ rfl); (focus (with_reducible assumption)))
  refine (HS.out _).mono ?_
  rintro e W1 ⟨rfl, q1⟩
  have E1 := E0.trans q1
  have K1 := KW.ext q1
  obtain ⟨N, hN⟩ : ∃ N, 8 * r.n = N := ⟨_, rfl⟩
  clear KW lw E0 q1
  go_wp2_with fail
  go_loopw [7] (fun t wr => ∃ tn : Int, 0 ≤ tn ∧ tn ≤ 2 ∧ t = .int .i64 tn ∧ Ext w wr ∧ Blk wr w.heap.size 23 who.cells ∧ (∀ t', 0 ≤ t' → t' < tn → ∀ j, j < N → ¬ s.seek who t' j)) (fun t _ => (2 - intOf t).toNat)
  case atStart => exact ⟨0, by omega, by omega, rfl, E1, K1, fun t' h0 h1 => by omega⟩
  case round =>
    clear E1 K1
    obtain ⟨tn, t0, t2, rfl, Er, Kr, hb⟩ := hrel
    have HB := Lib.hid hb
    have HE := Lib.hid Er
    by_cases ht2 : tn = 2
    · subst ht2
      have hf := PS.take_none (s := s) HO.out (fun j hj => by have := HB.out 0 (by omega) (by omega) j (by omega); unfold PS.seek at this; rwa [if_pos rfl] at this) (fun j hj => by have := HB.out 1 (by omega) (by omega) j (by omega); unfold PS.seek at this; rwa [if_neg (by omega)] at this)
      have HF := Lib.hid hf
      clear hf hb Er Kr
      go_wp2_with fail
      go_returns
      obtain ⟨e1, e2, e3⟩ := HF.out
      rw [e1, e2, e3]
      exact ⟨rfl, ⟨r, HR.out.ext HE.out, HL.out⟩, HE.out.two⟩
    have htor : tn = 0 ∨ tn = 1 := by omega
    have dt : decide (tn < 2) = true := decide_eq_true (by omega)
    have wt : IntKind.i64.wrap (tn + 1) = tn + 1 := IntWalk.i64_in _ (by omega)
    clear hb
    go_wp2_with fail
    go_loopw [8] (fun i wr => ∃ m : Nat, m ≤ N ∧ i = .int .i64 (m : Int) ∧ Ext w wr ∧ Blk wr w.heap.size 23 who.cells ∧ (∀ j, j < m → ¬ s.seek who tn j)) (fun i _ => N - (intOf i).toNat)
    case atStart => exact ⟨0, Nat.zero_le _, rfl, Er, Kr, fun j hj => by omega⟩
    case round =>
      clear Er Kr
      obtain ⟨m, hm, rfl, Em, Km, hbm⟩ := hrel
      have HBM := Lib.hid hbm
      have HEM := Lib.hid Em
      have HKM := Lib.hid Km
      have RM := HR.out.ext Em
      have c0 := RM.c0
      have c1 := RM.c1
      rw [hN] at c0 c1
      clear hbm
      by_cases hlt : m < N
      case neg =>
        have d1 : decide ((m : Int) < (N : Int)) = false := decide_eq_false (by omega)
        obtain rfl : m = N := by omega
        clear RM Em Km
        go_wp2_with fail
        go_roundw
        case rel => exact ⟨tn + 1, by omega, by omega, by go_num, HEM.out, HKM.out, fun t' g0 g1 => by
          by_cases he : t' = tn
          · subst he; exact HBM.out
          · exact HB.out t' g0 (by omega)⟩
        case measure => simp [intOf] <;> omega
      have d1 : decide ((m : Int) < (N : Int)) = true := decide_eq_true (by omega)
      have hlt' : (m : Int) < (N : Int) := by omega
      have q1 : Int.tdiv (m : Int) 8 = ((m / 8 : Nat) : Int) := by rw [Int.tdiv_eq_ediv_of_nonneg (by omega)]; omega
      have q2 : IntKind.i64.wrap ((m / 8 : Nat) : Int) = ((m / 8 : Nat) : Int) := IntWalk.i64_in _ (by omega)
      have HOW := Lib.hid (rowner_any gM gW gT s r (m / 8) wr RM HL.out (by omega))
      have wm : IntKind.i64.wrap ((m : Int) + 1) = (m : Int) + 1 := IntWalk.i64_in _ (by omega)
      generalize hq : ((m / 8 : Nat) : Int) = Q at *
      clear RM Em Km hq
      go_wp2_with fail
      refine HOW.out.mono ?_
      rintro e W2 ⟨rfl, E2⟩
      have KZ := Blk.new W2 23 zc6
      have st := KZ.store (ty := 23) (cs := (s.hold (m / 8)).cells) rfl Tryd.size6 (by simp [Six.cells, Value.oneCell'])
      have K3 := KZ.row (s.hold (m / 8)).cells
      have E3 := ((HEM.out.trans E2).alloc (.cells zc6 23)).row (k := W2.heap.size) (by have := HEM.out.size; have := E2.size; omega) (s.hold (m / 8)).cells
      have hk2 : W2.heap.size ≠ w.heap.size := by have := HKM.out.lt; have := E2.size; omega
      have KW3 := ((HKM.out.ext E2).alloc (.cells zc6 23)).farRow (k := W2.heap.size) (fun h => hk2 h.symm) (s.hold (m / 8)).cells
      clear KZ HOW E2 HEM HKM c0 c1
      go_upto_region 11 with (((apply store_by rfl _ _ _ rfl _ rfl); (focus (with_reducible assumption)); (focus rfl)))
      refine at_worldE (fun W => Ext w W ∧ Blk W w.heap.size 23 who.cells ∧ Blk W W2.heap.size 23 (s.hold (m / 8)).cells) ⟨E3, KW3, K3⟩ ?_
      clear st E3 KW3 K3 q1 q2
      rintro W3 ⟨E3, KW3, K3⟩
      have R3 := HR.out.ext E3
      have c1 := R3.c1
      have ct := R3.tk (i := m) (by omega)
      rw [HTK.out] at ct
      rw [hN] at c1
      have HE3 := Lib.hid E3
      have HK3 := Lib.hid KW3
      have cf := R3.tak.free m
      have hstep : ¬ s.seek who tn m → ∀ j, j < m + 1 → ¬ s.seek who tn j := fun hn j hj => by
        by_cases he : j = m
        · rw [he]; exact hn
        · exact HBM.out j (by omega)
      have HSTEP := Lib.hid hstep
      have htk : s.tk m = true ∨ s.tk m = false := by cases s.tk m <;> simp
      have hfound : s.seek who tn m → s.takeQ who = 0 ∧ PA.gets s who = m := fun hs => by
        rcases htor with rfl | rfl
        · refine PS.take_at0 HO.out (by omega) (by unfold PS.seek at hs; rwa [if_pos rfl] at hs) fun j hj => ?_
          have := HBM.out j hj
          unfold PS.seek at this
          rwa [if_pos rfl] at this
        · refine PS.take_at1 HO.out (fun j hj => ?_) (by omega) (by unfold PS.seek at hs; rwa [if_neg (by omega)] at hs) fun j hj => ?_
          · have := HB.out 0 (by omega) (by omega) j (by omega)
            unfold PS.seek at this
            rwa [if_pos rfl] at this
          · have := HBM.out j hj
            unfold PS.seek at this
            rwa [if_neg (by omega)] at this
      have HFO := Lib.hid hfound
      clear E3 hstep hfound
      rcases htk with ht | ht
      · have hns : ¬ s.seek who tn m := fun hs => by
          unfold PS.seek PS.mineAt PS.freshAt at hs
          split at hs
          · rw [ht] at hs; cases hs.1
          · rw [ht] at hs; cases hs.1
        have HNX := Lib.hid (HSTEP.out hns)
        rw [ht] at ct
        clear hns KW3 K3 R3 cf
        go_wp2_with (first | ((apply load_by rfl _ _ rfl _ rfl); (focus (with_reducible assumption))))
        go_roundw
        case rel => exact ⟨m + 1, by omega, by go_num, HE3.out, HK3.out, HNX.out⟩
        case measure => simp [intOf] <;> omega
      have HT := Lib.hid ht
      rw [ht] at ct
      rcases htor with rfl | rfl
      · by_cases hmz : s.many (m / 8) = 0
        · have his : s.is (m / 8) = false := by unfold PS.is; exact decide_eq_false (by omega)
          have hns : ¬ s.seek who 0 m := fun hs => by
            unfold PS.seek PS.mineAt at hs
            rw [if_pos rfl] at hs
            omega
          have HNX := Lib.hid (HSTEP.out hns)
          rw [his]
          clear hns KW3 K3 R3 cf ht
          go_wp2_with (first | ((apply load_by rfl _ _ rfl _ rfl); (focus (with_reducible assumption))))
          go_roundw
          case rel => exact ⟨m + 1, by omega, by go_num, HE3.out, HK3.out, HNX.out⟩
          case measure => simp [intOf] <;> omega
        · have his : s.is (m / 8) = true := by unfold PS.is; exact decide_eq_true (by omega)
          have hho : s.hold (m / 8) = s.own (m / 8) := by unfold PS.hold; rw [if_neg hmz]
          rw [hho] at K3
          have la := K3.six0
          have lb := KW3.six0
          have lc := fun W => six_eq (s.own (m / 8)) who W
          rw [his]
          cases hsq : sixEq (s.own (m / 8)) who
          case false =>
            have hns : ¬ s.seek who 0 m := fun hs => by
              unfold PS.seek PS.mineAt at hs
              rw [if_pos rfl] at hs
              rw [hs.2.2, sixEq_self] at hsq
              cases hsq
            have HNX := Lib.hid (HSTEP.out hns)
            rw [hsq] at lc
            clear hns KW3 K3 R3 cf ht
            go_wp2_with (first | ((apply load_by rfl _ _ rfl _ rfl); (focus (with_reducible assumption))))
            go_roundw
            case rel => exact ⟨m + 1, by omega, by go_num, HE3.out, HK3.out, HNX.out⟩
            case measure => simp [intOf] <;> omega
          case true =>
            have hsk : s.seek who 0 m := by
              unfold PS.seek PS.mineAt
              rw [if_pos rfl]
              exact ⟨ht, by omega, sixEq_iff.1 hsq⟩
            have HFD := Lib.hid (HFO.out hsk)
            rw [hsq] at lc
            clear hsk ht KW3 K3
            go_upto_region 13 with (first | ((apply load_by rfl _ _ rfl _ rfl); (focus (with_reducible assumption))))
            have hwT : w.heap.size ≠ gT := by omega
            have hwW : w.heap.size ≠ gW := by omega
            refine at_worldE (fun W => Rrt W gM gW gT (r.set m true) ∧ Blk W w.heap.size 23 who.cells ∧ Two w W gW gT) ⟨R3.put m true, HK3.out.far hwT _, HE3.out.two.trans (Two.right (only_set (World.grownBy.refl _ _) _ _))⟩ ?_
            clear c1 ct cf R3
            rintro W4 ⟨R4, K4, T4⟩
            have hmr : m < 8 * (r.set m true).n := by show m < 8 * r.n; omega
            have c4 : W4.cell? ⟨gM, 0, none⟩ = some (.slice (some ⟨gW, 0, none⟩) N N) := by rw [← hN]; exact R4.c0
            refine wp_region_held_drew (S := (fun w' => w'.cell? ⟨gM, 0, none⟩ = some (.slice (some ⟨gW, 0, none⟩) N N) ∧ Blk w' w.heap.size 23 who.cells)) (by kernel_rfl) ⟨c4, K4.drew⟩ (fun hS0 => ?_)
            (refine wpAnyH_take (i := 0) (v := ?_) rfl (by kernel_rfl) (by kernel_rfl) (by kernel_rfl) (fun _ _ _ h => h) (Or.inl ⟨by rfl, ?_⟩) (by assumption) ?_; rotate_left; focus (intro w hSw; (try dsimp only at hSw); go_simp; try with_reducible rfl); try simp only [Act.put, List.getElem_toArray, List.getElem_cons_succ, List.getElem_cons_zero, List.setIfInBounds_toArray, List.set_cons_zero, List.set_cons_succ])
            (refine wpAnyH_take (i := 1) (v := ?_) rfl (by kernel_rfl) (by kernel_rfl) (by kernel_rfl) (fun _ _ _ h => h) (Or.inl ⟨by rfl, ?_⟩) (by assumption) ?_; rotate_left; focus (intro w hSw; (try dsimp only at hSw); go_simp; try with_reducible rfl); try simp only [Act.put, List.getElem_toArray, List.getElem_cons_succ, List.getElem_cons_zero, List.setIfInBounds_toArray, List.set_cons_zero, List.set_cons_succ])
            (refine wpAnyH_take (i := 2) (v := ?_) rfl (by kernel_rfl) (by kernel_rfl) (by kernel_rfl) (fun _ _ _ h => h) (Or.inl ⟨by rfl, ?_⟩) (by assumption) ?_; rotate_left; focus (intro w hSw; (try dsimp only at hSw); go_simp; try with_reducible rfl); try simp only [Act.put, List.getElem_toArray, List.getElem_cons_succ, List.getElem_cons_zero, List.setIfInBounds_toArray, List.set_cons_zero, List.set_cons_succ])
            (refine wpAnyH_take (i := 4) (v := ?_) rfl (by kernel_rfl) (by kernel_rfl) (by kernel_rfl) (fun _ _ _ h => h) (Or.inl ⟨by rfl, ?_⟩) (by assumption) ?_; rotate_left; focus (intro w hSw; (try dsimp only at hSw); go_simp; try with_reducible rfl); try simp only [Act.put, List.getElem_toArray, List.getElem_cons_succ, List.getElem_cons_zero, List.setIfInBounds_toArray, List.set_cons_zero, List.set_cons_succ])
            (refine wpAnyH_take (i := 3) (v := ?_) rfl (by kernel_rfl) (by kernel_rfl) (by kernel_rfl) (fun _ _ _ h => h) (Or.inl ⟨by rfl, ?_⟩) (by assumption) ?_; rotate_left; focus (intro w hSw; (try dsimp only at hSw); go_simp; try with_reducible rfl); try simp only [Act.put, List.getElem_toArray, List.getElem_cons_succ, List.getElem_cons_zero, List.setIfInBounds_toArray, List.set_cons_zero, List.set_cons_succ])
            refine wpAnyH_take (i := 5) rfl (by kernel_rfl) (by kernel_rfl) (by kernel_rfl) (fun _ _ _ h => h) (Or.inl ⟨by rfl, fun W hS => exec_load rfl rfl (Blk.six0 hS.2)⟩) (by assumption) ?_
            (try simp only [Act.put, List.getElem_toArray, List.getElem_cons_succ, List.getElem_cons_zero, List.setIfInBounds_toArray, List.set_cons_zero, List.set_cons_succ])
            (refine wpAnyH_take (i := 6) (v := ?_) rfl (by kernel_rfl) (by kernel_rfl) (by kernel_rfl) (fun _ _ _ h => h) (Or.inl ⟨by rfl, ?_⟩) (by assumption) ?_; rotate_left; focus (intro w hSw; (try dsimp only at hSw); go_simp; try with_reducible rfl); try simp only [Act.put, List.getElem_toArray, List.getElem_cons_succ, List.getElem_cons_zero, List.setIfInBounds_toArray, List.set_cons_zero, List.set_cons_succ])
            (try simp only [Act.put, List.getElem_toArray, List.getElem_cons_succ, List.getElem_cons_zero, List.setIfInBounds_toArray, List.set_cons_zero, List.set_cons_succ])
            (refine wpAnyH_ready (rs := [7]) (by kernel_rfl) (by simp) ?_; refine AllReadyH.cons rfl (fun K hK => ?_) AllReadyH.nil)
            rw [if_pos (by rfl)]
            refine wp_store_at _ _ _ rfl _ rfl (R4.drew.swho hmr who) rfl ?_
            have R5 := R4.drew.give hmr who
            have T5 : Two w _ gW gT := T4.drew.trans (Two.left (only_cells who.cells.toList (m * 8) (World.grownBy.refl _ _)))
            have c5 := R5.c0
            rw [show 8 * ((r.set m true).give m who).n = N from hN] at c5
            refine hK.out _ _ ⟨c5, K4.drew.only (only_cells who.cells.toList (m * 8) (World.grownBy.refl _ _)) hwW⟩ ?_
            clear hK K
            intro hS
            refine wpAnyH_done (by kernel_rfl) ?_ _
            have HR5 := Lib.hid R5
            have HT5 := Lib.hid T5
            have wf : IntKind.i64.wrap (1024 + (m : Int)) = 1024 + (m : Int) := IntWalk.i64_in _ (by omega)
            clear R5 T5 c5 hS0 hS
            go_wp2_with fail
            go_returns
            obtain ⟨q0, g0⟩ := HFD.out
            rw [PS.takeN_gets q0, g0, q0]
            exact ⟨rfl, ⟨_, HR5.out, g0 ▸ HL.out.take q0⟩, HT5.out⟩
      · by_cases hmz : s.many (m / 8) = 0
        · have his : s.is (m / 8) = false := by unfold PS.is; exact decide_eq_false (by omega)
          have hsk : s.seek who 1 m := by
            unfold PS.seek PS.freshAt
            rw [if_neg (by omega)]
            exact ⟨ht, hmz⟩
          have HFD := Lib.hid (HFO.out hsk)
          rw [his]
          clear hsk ht KW3 K3
          go_upto_region 13 with (first | ((apply load_by rfl _ _ rfl _ rfl); (focus (with_reducible assumption))))
          have hwT : w.heap.size ≠ gT := by omega
          have hwW : w.heap.size ≠ gW := by omega
          refine at_worldE (fun W => Rrt W gM gW gT (r.set m true) ∧ Blk W w.heap.size 23 who.cells ∧ Two w W gW gT) ⟨R3.put m true, HK3.out.far hwT _, HE3.out.two.trans (Two.right (only_set (World.grownBy.refl _ _) _ _))⟩ ?_
          clear c1 ct cf R3
          rintro W4 ⟨R4, K4, T4⟩
          have hmr : m < 8 * (r.set m true).n := by show m < 8 * r.n; omega
          have c4 : W4.cell? ⟨gM, 0, none⟩ = some (.slice (some ⟨gW, 0, none⟩) N N) := by rw [← hN]; exact R4.c0
          refine wp_region_held_drew (S := (fun w' => w'.cell? ⟨gM, 0, none⟩ = some (.slice (some ⟨gW, 0, none⟩) N N) ∧ Blk w' w.heap.size 23 who.cells)) (by kernel_rfl) ⟨c4, K4.drew⟩ (fun hS0 => ?_)
          (refine wpAnyH_take (i := 0) (v := ?_) rfl (by kernel_rfl) (by kernel_rfl) (by kernel_rfl) (fun _ _ _ h => h) (Or.inl ⟨by rfl, ?_⟩) (by assumption) ?_; rotate_left; focus (intro w hSw; (try dsimp only at hSw); go_simp; try with_reducible rfl); try simp only [Act.put, List.getElem_toArray, List.getElem_cons_succ, List.getElem_cons_zero, List.setIfInBounds_toArray, List.set_cons_zero, List.set_cons_succ])
          (refine wpAnyH_take (i := 1) (v := ?_) rfl (by kernel_rfl) (by kernel_rfl) (by kernel_rfl) (fun _ _ _ h => h) (Or.inl ⟨by rfl, ?_⟩) (by assumption) ?_; rotate_left; focus (intro w hSw; (try dsimp only at hSw); go_simp; try with_reducible rfl); try simp only [Act.put, List.getElem_toArray, List.getElem_cons_succ, List.getElem_cons_zero, List.setIfInBounds_toArray, List.set_cons_zero, List.set_cons_succ])
          (refine wpAnyH_take (i := 2) (v := ?_) rfl (by kernel_rfl) (by kernel_rfl) (by kernel_rfl) (fun _ _ _ h => h) (Or.inl ⟨by rfl, ?_⟩) (by assumption) ?_; rotate_left; focus (intro w hSw; (try dsimp only at hSw); go_simp; try with_reducible rfl); try simp only [Act.put, List.getElem_toArray, List.getElem_cons_succ, List.getElem_cons_zero, List.setIfInBounds_toArray, List.set_cons_zero, List.set_cons_succ])
          (refine wpAnyH_take (i := 4) (v := ?_) rfl (by kernel_rfl) (by kernel_rfl) (by kernel_rfl) (fun _ _ _ h => h) (Or.inl ⟨by rfl, ?_⟩) (by assumption) ?_; rotate_left; focus (intro w hSw; (try dsimp only at hSw); go_simp; try with_reducible rfl); try simp only [Act.put, List.getElem_toArray, List.getElem_cons_succ, List.getElem_cons_zero, List.setIfInBounds_toArray, List.set_cons_zero, List.set_cons_succ])
          (refine wpAnyH_take (i := 3) (v := ?_) rfl (by kernel_rfl) (by kernel_rfl) (by kernel_rfl) (fun _ _ _ h => h) (Or.inl ⟨by rfl, ?_⟩) (by assumption) ?_; rotate_left; focus (intro w hSw; (try dsimp only at hSw); go_simp; try with_reducible rfl); try simp only [Act.put, List.getElem_toArray, List.getElem_cons_succ, List.getElem_cons_zero, List.setIfInBounds_toArray, List.set_cons_zero, List.set_cons_succ])
          refine wpAnyH_take (i := 5) rfl (by kernel_rfl) (by kernel_rfl) (by kernel_rfl) (fun _ _ _ h => h) (Or.inl ⟨by rfl, fun W hS => exec_load rfl rfl (Blk.six0 hS.2)⟩) (by assumption) ?_
          (try simp only [Act.put, List.getElem_toArray, List.getElem_cons_succ, List.getElem_cons_zero, List.setIfInBounds_toArray, List.set_cons_zero, List.set_cons_succ])
          (refine wpAnyH_take (i := 6) (v := ?_) rfl (by kernel_rfl) (by kernel_rfl) (by kernel_rfl) (fun _ _ _ h => h) (Or.inl ⟨by rfl, ?_⟩) (by assumption) ?_; rotate_left; focus (intro w hSw; (try dsimp only at hSw); go_simp; try with_reducible rfl); try simp only [Act.put, List.getElem_toArray, List.getElem_cons_succ, List.getElem_cons_zero, List.setIfInBounds_toArray, List.set_cons_zero, List.set_cons_succ])
          (try simp only [Act.put, List.getElem_toArray, List.getElem_cons_succ, List.getElem_cons_zero, List.setIfInBounds_toArray, List.set_cons_zero, List.set_cons_succ])
          (refine wpAnyH_ready (rs := [7]) (by kernel_rfl) (by simp) ?_; refine AllReadyH.cons rfl (fun K hK => ?_) AllReadyH.nil)
          rw [if_pos (by rfl)]
          refine wp_store_at _ _ _ rfl _ rfl (R4.drew.swho hmr who) rfl ?_
          have R5 := R4.drew.give hmr who
          have T5 : Two w _ gW gT := T4.drew.trans (Two.left (only_cells who.cells.toList (m * 8) (World.grownBy.refl _ _)))
          have c5 := R5.c0
          rw [show 8 * ((r.set m true).give m who).n = N from hN] at c5
          refine hK.out _ _ ⟨c5, K4.drew.only (only_cells who.cells.toList (m * 8) (World.grownBy.refl _ _)) hwW⟩ ?_
          clear hK K
          intro hS
          refine wpAnyH_done (by kernel_rfl) ?_ _
          have HR5 := Lib.hid R5
          have HT5 := Lib.hid T5
          have wf : IntKind.i64.wrap (1024 + (m : Int)) = 1024 + (m : Int) := IntWalk.i64_in _ (by omega)
          clear R5 T5 c5 hS0 hS
          go_wp2_with fail
          go_returns
          obtain ⟨q0, g0⟩ := HFD.out
          rw [PS.takeN_gets q0, g0, q0]
          exact ⟨rfl, ⟨_, HR5.out, g0 ▸ HL.out.take q0⟩, HT5.out⟩
        · have his : s.is (m / 8) = true := by unfold PS.is; exact decide_eq_true (by omega)
          have hns : ¬ s.seek who 1 m := fun hs => by
            unfold PS.seek PS.freshAt at hs
            rw [if_neg (by omega)] at hs
            omega
          have HNX := Lib.hid (HSTEP.out hns)
          rw [his]
          clear hns KW3 K3 R3 cf ht
          go_wp2_with (first | ((apply load_by rfl _ _ rfl _ rfl); (focus (with_reducible assumption))))
          go_roundw
          case rel => exact ⟨m + 1, by omega, by go_num, HE3.out, HK3.out, HNX.out⟩
          case measure => simp [intOf] <;> omega
end Go.Proofs.YtefdhlmljocnkaaDoor
/- The document's NewPorts. Conditions: as each lemma states them. -/
namespace Go.Proofs.YtefdhlmljocnkaaDoor
open Go.RowKit
def RS.zero (n : Nat) : RS := ⟨n, fun _ => six0, fun _ => false⟩
theorem Tryd.infoBool : (Tryd.prog.info? 4).map (fun i => (i.zero, i.size, i.bytes)) = some (some (.bool false), 1, 1) := by kernel_rfl
theorem zero_whos (n : Nat) : madeCells zc6 (8 * n * 8) = (RS.zero n).whos := by
  refine Array.ext_getElem? fun i => ?_
  by_cases hi : i < 8 * n * 8
  · rw [RS.whos_at (RS.zero n) (show i < 8 * (RS.zero n).n * 8 from hi)]
    unfold madeCells
    rw [Array.getElem?_map, Array.getElem?_range, if_pos hi]
    show some (zc6[i % 8]!) = _
    have h : i % 8 < 8 := Nat.mod_lt _ (by omega)
    unfold RS.cell
    generalize i % 8 = r at *
    have h : r = 0 ∨ r = 1 ∨ r = 2 ∨ r = 3 ∨ r = 4 ∨ r = 5 ∨ r = 6 ∨ r = 7 := by omega
    rcases h with rfl | rfl | rfl | rfl | rfl | rfl | rfl | rfl <;> rfl
  · rw [RS.whos_out (RS.zero n) (show ¬ i < 8 * (RS.zero n).n * 8 from hi), Array.getElem?_eq_none (by rw [size_madeCells]; omega)]
theorem zero_taken (n : Nat) : madeCells #[.bool false] (8 * n * 1) = (RS.zero n).taken := by
  refine Array.ext_getElem? fun i => ?_
  by_cases hi : i < 8 * n
  · rw [RS.taken_at (RS.zero n) (show i < 8 * (RS.zero n).n from hi)]
    unfold madeCells
    rw [Array.getElem?_map, Array.getElem?_range, if_pos (by omega)]
    show some ((#[Value.bool false] : Array Value)[i % 1]!) = _
    rw [Nat.mod_one]
    rfl
  · rw [RS.taken_out (RS.zero n) (show ¬ i < 8 * (RS.zero n).n from hi), Array.getElem?_eq_none (by rw [size_madeCells]; omega)]
theorem make_sixes (n N : Nat) (hN : 8 * n = N) (hn : n ≤ 16) (w : World) : (Instr.makeSlice 135 (.int .i64 (N : Int)) (.int .i64 (N : Int))).run Tryd.prog w = .ok (.slice (some ⟨w.heap.size, 0, none⟩) N N) (w.alloc (.cells (RS.zero n).whos 23)) := by
  obtain ⟨i, hi, he⟩ := Option.map_eq_some_iff.1 Tryd.infoSix
  obtain ⟨h0, h1, h2⟩ : i.zero = some (.agg zc6) ∧ i.size = 8 ∧ i.bytes = 64 := by simpa using he
  have := run_makeSlice (P := Tryd.prog) w 135 23 i (.agg zc6) Tryd.underlying135 hi h0 .i64 .i64 (N : Int) (N : Int) (by omega) (by omega) (by rw [h1, Int.toNat_natCast]; omega) (by rw [h2]; omega) (by omega)
  have hc : (Value.agg zc6).cells = zc6 := rfl
  rw [h1, Int.toNat_natCast, hc, ← hN, zero_whos] at this
  rw [← hN]
  exact this
theorem make_bools (n N : Nat) (hN : 8 * n = N) (hn : n ≤ 16) (w : World) : (Instr.makeSlice 136 (.int .i64 (N : Int)) (.int .i64 (N : Int))).run Tryd.prog w = .ok (.slice (some ⟨w.heap.size, 0, none⟩) N N) (w.alloc (.cells (RS.zero n).taken 4)) := by
  obtain ⟨i, hi, he⟩ := Option.map_eq_some_iff.1 Tryd.infoBool
  obtain ⟨h0, h1, h2⟩ : i.zero = some (.bool false) ∧ i.size = 1 ∧ i.bytes = 1 := by simpa using he
  have := run_makeSlice (P := Tryd.prog) w 136 4 i (.bool false) Tryd.underlying136 hi h0 .i64 .i64 (N : Int) (N : Int) (by omega) (by omega) (by rw [h1, Int.toNat_natCast]; omega) (by rw [h2]; omega) (by omega)
  have hc : (Value.bool false).cells = #[.bool false] := rfl
  rw [h1, Int.toNat_natCast, hc, ← hN, zero_taken] at this
  rw [← hN]
  exact this
/-- What NewPorts leaves. -/
def NewR (n : Nat) (w : World) (e : Ending) (w' : World) : Prop := ∃ gM gW gT, e = .returned (.pointer (some ⟨gM, 0, none⟩)) ∧ Rrt w' gM gW gT (RS.zero n) ∧ Ext w w' ∧ w.heap.size ≤ gM ∧ w.heap.size ≤ gW ∧ w.heap.size ≤ gT
set_option maxRecDepth 100000 in
set_option maxHeartbeats 1000000 in
theorem rnew_ok (n : Nat) (w : World) (h0 : 1 ≤ n) (h1 : n ≤ 16) : Calls Tryd.prog 48 #[.int .i64 (n : Int)] w (NewR n w) := by
  obtain ⟨N, hN⟩ : ∃ N, 8 * n = N := ⟨_, rfl⟩
  have hm1 := fun W => make_sixes n N hN h1 W
  have hm2 := fun W => make_bools n N hN h1 W
  have w1 : IntKind.i64.wrap ((n : Int) * 8) = (N : Int) := by rw [show (n : Int) * 8 = (N : Int) by omega]; exact IntWalk.i64_in _ (by omega)
  have key : ∀ W gW gT, Ext w W → gW ≠ gT → w.heap.size ≤ gW → w.heap.size ≤ gT → Blk W gW 23 (RS.zero n).whos → Blk W gT 4 (RS.zero n).taken →
      NewR n w (.returned (.pointer (some ⟨W.heap.size, 0, none⟩))) (W.alloc (.cells #[.slice (some ⟨gW, 0, none⟩) N N, .slice (some ⟨gT, 0, none⟩) N N] 138)) := fun W gW gT hE hne l1 l2 b1 b2 => by
    refine ⟨W.heap.size, gW, gT, rfl, ⟨?_, b1.alloc _, b2.alloc _, ⟨?_, ?_, hne⟩, h0, h1⟩, hE.alloc _, hE.size, l1, l2⟩
    · rw [show 8 * (RS.zero n).n = N from hN]; exact Blk.new _ _ _
    · have := b1.lt; omega
    · have := b2.lt; omega
  have KEY := Lib.hid key
  have HN := Lib.hid hN
  clear key hN
  go_enter Tryd.func48, Tryd.ntmps48
  go_wp2_with fail
  refine wp_region_held_drew (S := (fun _ => True)) (by kernel_rfl) trivial (fun hS0 => ?_)
  have EX : Ext w w.drew := (Ext.refl w).drew
  generalize w.drew = V0 at *
  (refine wpAnyH_take (i := 0) (v := ?_) rfl (by kernel_rfl) (by kernel_rfl) (by kernel_rfl) (fun _ _ _ h => h) (Or.inl ⟨by rfl, ?_⟩) (by assumption) ?_; rotate_left; focus (intro w hSw; (try dsimp only at hSw); go_simp; try with_reducible rfl); try simp only [Act.put, List.getElem_toArray, List.getElem_cons_succ, List.getElem_cons_zero, List.setIfInBounds_toArray, List.set_cons_zero, List.set_cons_succ])
  (refine wpAnyH_take (i := 1) (v := ?_) rfl (by kernel_rfl) (by kernel_rfl) (by kernel_rfl) (fun _ _ _ h => h) (Or.inl ⟨by rfl, ?_⟩) (by assumption) ?_; rotate_left; focus (intro w hSw; (try dsimp only at hSw); go_simp; try with_reducible rfl); try simp only [Act.put, List.getElem_toArray, List.getElem_cons_succ, List.getElem_cons_zero, List.setIfInBounds_toArray, List.set_cons_zero, List.set_cons_succ])
  (refine wpAnyH_take (i := 3) (v := ?_) rfl (by kernel_rfl) (by kernel_rfl) (by kernel_rfl) (fun _ _ _ h => h) (Or.inl ⟨by rfl, ?_⟩) (by assumption) ?_; rotate_left; focus (intro w hSw; (try dsimp only at hSw); go_simp; try with_reducible rfl); try simp only [Act.put, List.getElem_toArray, List.getElem_cons_succ, List.getElem_cons_zero, List.setIfInBounds_toArray, List.set_cons_zero, List.set_cons_succ])
  (refine wpAnyH_take (i := 4) (v := ?_) rfl (by kernel_rfl) (by kernel_rfl) (by kernel_rfl) (fun _ _ _ h => h) (Or.inl ⟨by rfl, ?_⟩) (by assumption) ?_; rotate_left; focus (intro w hSw; (try dsimp only at hSw); go_simp; try with_reducible rfl); try simp only [Act.put, List.getElem_toArray, List.getElem_cons_succ, List.getElem_cons_zero, List.setIfInBounds_toArray, List.set_cons_zero, List.set_cons_succ])
  refine wpAnyH_ready (rs := [2, 5]) (by kernel_rfl) (by simp) ?_
  refine AllReadyH.cons rfl (fun K hK => ?_) (AllReadyH.cons rfl (fun K hK => ?_) AllReadyH.nil)
  · go_simp
    have K1 := Blk.new V0 23 (RS.zero n).whos
    have EX1 := EX.alloc (.cells (RS.zero n).whos 23)
    have hz1 := EX.size
    refine hK.out _ _ trivial ?_
    clear hK K EX
    intro hS
    (try simp only [Act.put, List.getElem_toArray, List.getElem_cons_succ, List.getElem_cons_zero, List.setIfInBounds_toArray, List.set_cons_zero, List.set_cons_succ])
    generalize V0.alloc (.cells (RS.zero n).whos 23) = V1 at *
    refine wpAnyH_ready (rs := [5]) (by kernel_rfl) (by simp) ?_
    refine AllReadyH.cons rfl (fun K hK => ?_) AllReadyH.nil
    go_simp
    have KT := Blk.new V1 4 (RS.zero n).taken
    have KW := K1.alloc (.cells (RS.zero n).taken 4)
    have EX2 := EX1.alloc (.cells (RS.zero n).taken 4)
    have hz2 := EX1.size
    have hlt := K1.lt
    refine hK.out _ _ trivial ?_
    clear hK K K1
    intro hS
    (try simp only [Act.put, List.getElem_toArray, List.getElem_cons_succ, List.getElem_cons_zero, List.setIfInBounds_toArray, List.set_cons_zero, List.set_cons_succ])
    generalize V1.alloc (.cells (RS.zero n).taken 4) = V2 at *
    (refine wpAnyH_take (i := 6) (v := ?_) rfl (by kernel_rfl) (by kernel_rfl) (by kernel_rfl) (fun _ _ _ h => h) (Or.inl ⟨by rfl, ?_⟩) (by assumption) ?_; rotate_left; focus (intro w hSw; (try dsimp only at hSw); go_simp; try with_reducible rfl); try simp only [Act.put, List.getElem_toArray, List.getElem_cons_succ, List.getElem_cons_zero, List.setIfInBounds_toArray, List.set_cons_zero, List.set_cons_succ])
    (try simp only [Act.put, List.getElem_toArray, List.getElem_cons_succ, List.getElem_cons_zero, List.setIfInBounds_toArray, List.set_cons_zero, List.set_cons_succ])
    (refine wpAnyH_ready (rs := [7]) (by kernel_rfl) (by simp) ?_; refine AllReadyH.cons rfl (fun K hK => ?_) AllReadyH.nil)
    go_simp
    have HZ := Lib.hid (KEY.out V2 V0.heap.size V1.heap.size EX2 (by omega) hz1 hz2 KW KT)
    refine hK.out _ _ trivial ?_
    clear hK K
    intro hS
    (try simp only [Act.put, List.getElem_toArray, List.getElem_cons_succ, List.getElem_cons_zero, List.setIfInBounds_toArray, List.set_cons_zero, List.set_cons_succ])
    (refine wpAnyH_take (i := 8) (v := ?_) rfl (by kernel_rfl) (by kernel_rfl) (by kernel_rfl) (fun _ _ _ h => h) (Or.inl ⟨by rfl, ?_⟩) (by assumption) ?_; rotate_left; focus (intro w hSw; (try dsimp only at hSw); go_simp; try with_reducible rfl); try simp only [Act.put, List.getElem_toArray, List.getElem_cons_succ, List.getElem_cons_zero, List.setIfInBounds_toArray, List.set_cons_zero, List.set_cons_succ])
    refine wpAnyH_done (by kernel_rfl) ?_ _
    clear KW KT EX2 EX1
    go_wp2_with fail
    go_returns
    exact HZ.out
  · go_simp
    have K1 := Blk.new V0 4 (RS.zero n).taken
    have EX1 := EX.alloc (.cells (RS.zero n).taken 4)
    have hz1 := EX.size
    refine hK.out _ _ trivial ?_
    clear hK K EX
    intro hS
    (try simp only [Act.put, List.getElem_toArray, List.getElem_cons_succ, List.getElem_cons_zero, List.setIfInBounds_toArray, List.set_cons_zero, List.set_cons_succ])
    generalize V0.alloc (.cells (RS.zero n).taken 4) = V1 at *
    refine wpAnyH_ready (rs := [2]) (by kernel_rfl) (by simp) ?_
    refine AllReadyH.cons rfl (fun K hK => ?_) AllReadyH.nil
    go_simp
    have KW := Blk.new V1 23 (RS.zero n).whos
    have KT := K1.alloc (.cells (RS.zero n).whos 23)
    have EX2 := EX1.alloc (.cells (RS.zero n).whos 23)
    have hz2 := EX1.size
    have hlt := K1.lt
    refine hK.out _ _ trivial ?_
    clear hK K K1
    intro hS
    (try simp only [Act.put, List.getElem_toArray, List.getElem_cons_succ, List.getElem_cons_zero, List.setIfInBounds_toArray, List.set_cons_zero, List.set_cons_succ])
    generalize V1.alloc (.cells (RS.zero n).whos 23) = V2 at *
    (refine wpAnyH_take (i := 6) (v := ?_) rfl (by kernel_rfl) (by kernel_rfl) (by kernel_rfl) (fun _ _ _ h => h) (Or.inl ⟨by rfl, ?_⟩) (by assumption) ?_; rotate_left; focus (intro w hSw; (try dsimp only at hSw); go_simp; try with_reducible rfl); try simp only [Act.put, List.getElem_toArray, List.getElem_cons_succ, List.getElem_cons_zero, List.setIfInBounds_toArray, List.set_cons_zero, List.set_cons_succ])
    (try simp only [Act.put, List.getElem_toArray, List.getElem_cons_succ, List.getElem_cons_zero, List.setIfInBounds_toArray, List.set_cons_zero, List.set_cons_succ])
    (refine wpAnyH_ready (rs := [7]) (by kernel_rfl) (by simp) ?_; refine AllReadyH.cons rfl (fun K hK => ?_) AllReadyH.nil)
    go_simp
    have HZ := Lib.hid (KEY.out V2 V1.heap.size V0.heap.size EX2 (by omega) hz2 hz1 KW KT)
    refine hK.out _ _ trivial ?_
    clear hK K
    intro hS
    (try simp only [Act.put, List.getElem_toArray, List.getElem_cons_succ, List.getElem_cons_zero, List.setIfInBounds_toArray, List.set_cons_zero, List.set_cons_succ])
    (refine wpAnyH_take (i := 8) (v := ?_) rfl (by kernel_rfl) (by kernel_rfl) (by kernel_rfl) (fun _ _ _ h => h) (Or.inl ⟨by rfl, ?_⟩) (by assumption) ?_; rotate_left; focus (intro w hSw; (try dsimp only at hSw); go_simp; try with_reducible rfl); try simp only [Act.put, List.getElem_toArray, List.getElem_cons_succ, List.getElem_cons_zero, List.setIfInBounds_toArray, List.set_cons_zero, List.set_cons_succ])
    refine wpAnyH_done (by kernel_rfl) ?_ _
    clear KW KT EX2 EX1
    go_wp2_with fail
    go_returns
    exact HZ.out
end Go.Proofs.YtefdhlmljocnkaaDoor
/- The document's table of binds in memory: Find, Port, Tick. Conditions: as each theorem states them. -/
namespace Go.Proofs.YtefdhlmljocnkaaDoor
open Go.RowKit
/-- Where the document's table lies. -/
structure RG where
  gR : Nat
  gM : Nat
  gW : Nat
  gT : Nat
def RG.all (g : RG) : List Nat := [g.gR, g.gM, g.gW, g.gT]
/-- The document's table lies in memory: its binds in a row of their own from block b on. -/
structure RT (w : World) (g : RG) (b : Nat) (v : Value) (s : PS) (B : List Bd) : Prop where
  ptr : Blk w g.gR 68 #[.pointer (some ⟨g.gM, 0, none⟩), v]
  prt : ∃ r, Rrt w g.gM g.gW g.gT r ∧ Like s r
  own : KB.Own 53 w b v B
  apart : g.all.Nodup
  lo : ∀ x ∈ g.all, x < b
  base : b ≤ w.heap.size
theorem RT.ext {w w' : World} {g : RG} {b : Nat} {v : Value} {s : PS} {B : List Bd} (h : RT w g b v s B) (k : Ext w w') : RT w' g b v s B := by
  obtain ⟨r, hr, hl⟩ := h.prt
  exact ⟨h.ptr.ext k, ⟨r, hr.ext k, hl⟩, h.own.ext k, h.apart, h.lo, Nat.le_trans h.base k.size⟩
theorem RT.kp {w w' : World} {g : RG} {b : Nat} {v : Value} {s : PS} {B : List Bd} {S : List Nat} (h : RT w g b v s B) (k : Kp S w w') (hS : ∀ x ∈ g.all, x ∉ S) (hv : ∀ x, v.ownBlock = some x → x ∉ S) : RT w' g b v s B := by
  obtain ⟨r, hr, hl⟩ := h.prt
  exact ⟨h.ptr.kp k (hS _ (by simp [RG.all])), ⟨r, ⟨hr.ptr.kp k (hS _ (by simp [RG.all])), hr.who.kp k (hS _ (by simp [RG.all])), hr.tak.kp k (hS _ (by simp [RG.all])), hr.ne, hr.n0, hr.n1⟩, hl⟩, h.own.kp k hv, h.apart, h.lo, Nat.le_trans h.base k.size⟩
set_option maxRecDepth 100000 in
theorem rtick_any (n : Int) (w : World) : Calls Tryd.prog 21 #[.int .i64 n] w fun e w' => e = .returned (.bool (okT n)) ∧ w' = w := by
  unfold okT
  by_cases h0 : 0 ≤ n
  · have e0 : decide (n ≥ 0) = true := by simpa using h0
    go_enter Tryd.func21, Tryd.ntmps21
    go_wp2
    go_ret
    simp [h0]
  · have e0 : decide (n ≥ 0) = false := by simpa using h0
    go_enter Tryd.func21, Tryd.ntmps21
    go_wp2
    go_ret
    simp
/-- The place of a bind; -1. -/
def place (p : Bd → Bool) (B : List Bd) : Int := if B.findIdx p < B.length then (B.findIdx p : Int) else -1
theorem place_at {p : Bd → Bool} {B : List Bd} {k : Nat} {x : Bd} (hx : B[k]? = some x) (hp : p x = true) (hb : ∀ j y, j < k → B[j]? = some y → p y = false) : place p B = (k : Int) := by
  have hk := (List.getElem?_eq_some_iff.1 hx).1
  have e : B.findIdx p = k := by
    rw [List.findIdx_eq hk]
    refine ⟨by rw [(List.getElem?_eq_some_iff.1 hx).2]; exact hp, fun j hj => ?_⟩
    exact hb j _ hj (List.getElem?_eq_getElem (by omega))
  unfold place
  rw [e, if_pos hk]
theorem place_none {p : Bd → Bool} {B : List Bd} (h : ∀ x ∈ B, p x = false) : place p B = -1 := by
  unfold place
  rw [if_neg]
  rw [List.findIdx_lt_length]
  rintro ⟨x, hx, hp⟩
  rw [h x hx] at hp
  cases hp
set_option maxRecDepth 100000 in
set_option maxHeartbeats 2000000 in
theorem rport_place (g : RG) (b : Nat) (v : Value) (s : PS) (B : List Bd) (near : Int) (w : World) (h : RT w g b v s B) (hB : B.length ≤ 65536) :
    Calls Tryd.prog 25 #[.pointer (some ⟨g.gR, 0, none⟩), .int .i64 near] w fun e w' => e = .returned (.int .i64 (place (fun b => b.near == near) B)) ∧ w' = w := by
  obtain ⟨a, c, rfl, hc, hs, _, _⟩ := h.own.open
  have c1 : w.cell? ⟨g.gR, 1, none⟩ = some (.slice a B.length c) := h.ptr.cells 1
  obtain ⟨n, hn⟩ : ∃ n, B.length = n := ⟨_, rfl⟩
  rw [hn] at c1 hs hc hB
  have HS := Lib.hid hs
  have HN := Lib.hid hn
  clear h hs
  go_enter Tryd.func25, Tryd.ntmps25
  go_wp2_with fail
  go_loopw [5] (fun i wr => wr = w ∧ ∃ k : Nat, k ≤ n ∧ i = .int .i64 k ∧ ∀ j y, j < k → B[j]? = some y → (y.near == near) = false) (fun i _ => n - (intOf i).toNat)
  case atStart => exact ⟨rfl, 0, Nat.zero_le _, rfl, fun j y hj => by omega⟩
  case round =>
    obtain ⟨rfl, k, hk, rfl, hb⟩ := hrel
    by_cases hlt : k < n
    case neg =>
      have d1 : decide ((k : Int) < (n : Int)) = false := decide_eq_false (by omega)
      have d2 : decide (k < n) = false := decide_eq_false hlt
      have hp : place (fun b => b.near == near) B = -1 := place_none fun x hx => by
        obtain ⟨j, hj⟩ := List.mem_iff_getElem?.1 hx
        have hj' := (List.getElem?_eq_some_iff.1 hj).1
        rw [HN.out] at hj'
        exact hb j x (by omega) hj
      have HP := Lib.hid hp
      clear hb hp
      go_wp2_with fail
      go_returns
      exact ⟨by rw [HP.out]; rfl, rfl⟩
    have d1 : decide ((k : Int) < (n : Int)) = true := decide_eq_true (by omega)
    have d2 : decide (k < n) = true := decide_eq_true hlt
    have hkn : (k : Int) < (n : Int) := by omega
    obtain ⟨x, hx⟩ : ∃ x, B[k]? = some x := ⟨_, List.getElem?_eq_getElem (by rw [HN.out]; omega)⟩
    obtain ⟨ab, ao, rfl, _, hcs⟩ := HS.out.at (Ext.refl _) (by omega)
    have cn : wr.cell? ⟨ab, ao + k * 23 + 19, none⟩ = some (.int .i64 x.near) := hcs k x hx 19 _ rfl
    have wk : IntKind.i64.wrap ((k : Int) + 1) = (k : Int) + 1 := IntWalk.i64_in _ (by omega)
    cases hq : (x.near == near)
    case true =>
      have HP := Lib.hid (place_at (p := fun b => b.near == near) hx hq hb)
      have hq' : decide (x.near = near) = true := by simpa using hq
      clear hb hcs hx
      go_wp2_with fail
      go_returns
      exact ⟨by rw [HP.out]; rfl, rfl⟩
    case false =>
      have hb' : ∀ j y, j < k + 1 → B[j]? = some y → (y.near == near) = false := fun j y hj hy => by
        by_cases he : j = k
        · subst he; rw [hx] at hy; cases hy; exact hq
        · exact hb j y (by omega) hy
      have HB := Lib.hid hb'
      have hq' : decide (x.near = near) = false := by simpa using hq
      clear hb hb' hcs hx
      go_wp2_with fail
      go_roundw
      case rel => exact ⟨trivial, k + 1, by omega, by go_num, HB.out⟩
      case measure => simp [intOf] <;> omega
/-- A bind's flow in a row, read whole. -/
theorem Kin.See.bflow {w : World} {b off n : Nat} {xs : List Bd} (h : KB.See w (some ⟨b, off, none⟩) n xs) {i : Nat} {x : Bd} (hi : xs[i]? = some x) :
    (Instr.loadAt 47 (.pointer (some ⟨b, off + i * 23, none⟩))).run Tryd.prog w = .ok (.agg x.flow.cells) w := by
  have hn : 0 < n := by
    have := (List.getElem?_eq_some_iff.1 hi).1
    rw [h.1] at this
    omega
  rcases h.2 with h0 | ⟨b', off', hb, hc⟩
  · omega
  · cases hb
    have e : x.cells = x.flow.cells ++ #[.int .i64 x.near, .int .i64 x.back, .int .i64 x.far, .int .i64 x.last] := rfl
    have := run_loadAt_mid (P := Tryd.prog) w b (off + i * 23) 47 x.flow.cells.toList _ (fun j v hv => hc i x hi j v (by
      show x.cells.toList[j]? = some v
      rw [Array.getElem?_toList] at hv ⊢
      rw [e, Array.getElem?_append_left (Array.getElem?_eq_some_iff.1 hv).1]
      exact hv)) Tryd.underlying47 rfl Tryd.sizeFlow
    rw [Array.toArray_toList] at this
    exact this
set_option maxRecDepth 100000 in
set_option maxHeartbeats 2000000 in
theorem rfind_place (g : RG) (b : Nat) (v : Value) (s : PS) (B : List Bd) (f : Flow) (w : World) (h : RT w g b v s B) (hB : B.length ≤ 65536) :
    Calls Tryd.prog 27 #[.pointer (some ⟨g.gR, 0, none⟩), f.v] w fun e w' => e = .returned (.int .i64 (place (fun b => flowEq b.flow f) B)) ∧ Ext w w' := by
  obtain ⟨a, c, rfl, hc, hs, _, _⟩ := h.own.open
  have c1 : w.cell? ⟨g.gR, 1, none⟩ = some (.slice a B.length c) := h.ptr.cells 1
  have hRl := h.ptr.lt
  obtain ⟨n, hn⟩ : ∃ n, B.length = n := ⟨_, rfl⟩
  rw [hn] at c1 hs hc hB
  have HS := Lib.hid hs
  have HN := Lib.hid hn
  have HC := Lib.hid c1
  have K0 := Blk.new w 47 f.cells
  have E0 := (Ext.refl w).alloc (.cells f.cells 47)
  have c1 : (w.alloc (.cells f.cells 47)).cell? ⟨g.gR, 1, none⟩ = some (.slice a n c) := by rw [← hn]; exact (h.ptr.alloc _).cells 1
  clear h hs
  go_enter Tryd.func27, Tryd.ntmps27
  go_wp2_with fail
  go_loopw [5] (fun i wr => Ext w wr ∧ Blk wr w.heap.size 47 f.cells ∧ wr.cell? ⟨g.gR, 1, none⟩ = some (.slice a n c) ∧ ∃ k : Nat, k ≤ n ∧ i = .int .i64 k ∧ ∀ j y, j < k → B[j]? = some y → flowEq y.flow f = false) (fun i _ => n - (intOf i).toNat)
  case atStart => exact ⟨E0, K0, c1, 0, Nat.zero_le _, rfl, fun j y hj => by omega⟩
  case round =>
    clear c1 K0 E0
    obtain ⟨E1, K1, c1, k, hk, rfl, hb⟩ := hrel
    by_cases hlt : k < n
    case neg =>
      have d1 : decide ((k : Int) < (n : Int)) = false := decide_eq_false (by omega)
      have d2 : decide (k < n) = false := decide_eq_false hlt
      have hp : place (fun b => flowEq b.flow f) B = -1 := place_none fun x hx => by
        obtain ⟨j, hj⟩ := List.mem_iff_getElem?.1 hx
        have hj' := (List.getElem?_eq_some_iff.1 hj).1
        rw [HN.out] at hj'
        exact hb j x (by omega) hj
      have HP := Lib.hid (And.intro hp E1)
      clear hb hp E1 K1
      go_wp2_with fail
      go_returns
      exact ⟨by rw [HP.out.1]; rfl, HP.out.2⟩
    have d1 : decide ((k : Int) < (n : Int)) = true := decide_eq_true (by omega)
    have d2 : decide (k < n) = true := decide_eq_true hlt
    have hkn : (k : Int) < (n : Int) := by omega
    obtain ⟨x, hx⟩ : ∃ x, B[k]? = some x := ⟨_, List.getElem?_eq_getElem (by rw [HN.out]; omega)⟩
    obtain ⟨ab, ao, rfl, _, _⟩ := HS.out.at E1 (by omega)
    have la := Lib.hid (fun m => (HS.out.ext (E1.drewN m)).bflow hx)
    have lb := Lib.hid (fun m => loaFl (K1.drewN m))
    have le : ∀ W, (Op.equalIn 10000 47 (.agg x.flow.cells) (.agg f.cells)).run Tryd.prog W = .ok (flowEq x.flow f) W := fun W => run_flowEq x.flow f W
    have wk : IntKind.i64.wrap ((k : Int) + 1) = (k : Int) + 1 := IntWalk.i64_in _ (by omega)
    have HX := Lib.hid (And.intro E1 (And.intro K1 (And.intro hx (And.intro hb c1))))
    clear E1 K1 hb
    cases hq : flowEq x.flow f
    case true =>
      rw [hq] at le
      clear hx
      go_wp2_with fail
      refine wp_region_quiet_lit (by kernel_rfl) (by kernel_rfl) ?_; repeat (go_big_quiet_step (fail))
      go_big_quiet_want; refine quiet_ld _ _ rfl rfl (by rintro _ ⟨m, rfl⟩; exact la.out m) ?_; go_big_quiet_on; (try simp only [Act.put, List.setIfInBounds_toArray, List.set_cons_zero, List.set_cons_succ]); repeat (go_big_quiet_step (fail))
      go_big_quiet_want; refine quiet_ld _ _ rfl rfl (by rintro _ ⟨m, rfl⟩; exact lb.out m) ?_; go_big_quiet_on; (try simp only [Act.put, List.setIfInBounds_toArray, List.set_cons_zero, List.set_cons_succ]); repeat (go_big_quiet_step (fail))
      refine wpQuiet_nil ?_; intro _ hw'; obtain ⟨nq, hw''⟩ := hw'; subst hw''
      clear la lb le
      go_wp2_with fail
      go_returns
      obtain ⟨E1, K1, hx, hb, _⟩ := HX.out
      exact ⟨by rw [place_at (p := fun b => flowEq b.flow f) hx hq hb]; rfl, E1.drewN _⟩
    case false =>
      rw [hq] at le
      clear hx
      go_wp2_with fail
      refine wp_region_quiet_lit (by kernel_rfl) (by kernel_rfl) ?_; repeat (go_big_quiet_step (fail))
      go_big_quiet_want; refine quiet_ld _ _ rfl rfl (by rintro _ ⟨m, rfl⟩; exact la.out m) ?_; go_big_quiet_on; (try simp only [Act.put, List.setIfInBounds_toArray, List.set_cons_zero, List.set_cons_succ]); repeat (go_big_quiet_step (fail))
      go_big_quiet_want; refine quiet_ld _ _ rfl rfl (by rintro _ ⟨m, rfl⟩; exact lb.out m) ?_; go_big_quiet_on; (try simp only [Act.put, List.setIfInBounds_toArray, List.set_cons_zero, List.set_cons_succ]); repeat (go_big_quiet_step (fail))
      refine wpQuiet_nil ?_; intro _ hw'; obtain ⟨nq, hw''⟩ := hw'; subst hw''
      clear la lb le
      go_wp2_with fail
      obtain ⟨E1, K1, hx, hb, c9⟩ := HX.out
      have hb' : ∀ j y, j < k + 1 → B[j]? = some y → flowEq y.flow f = false := fun j y hj hy => by
        by_cases he : j = k
        · subst he; rw [hx] at hy; cases hy; exact hq
        · exact hb j y (by omega) hy
      go_roundw
      case rel => exact ⟨E1.drewN _, K1.drewN _, c9, k + 1, by omega, by go_num, hb'⟩
      case measure => simp [intOf] <;> omega
/-- A place and what stands there. -/
theorem place_find (p : Bd → Bool) (B : List Bd) : (B.find? p = none ∧ place p B = -1) ∨ ∃ (k : Nat) (x : Bd), B[k]? = some x ∧ B.find? p = some x ∧ place p B = (k : Int) := by
  cases hf : B.find? p with
  | none => exact .inl ⟨rfl, place_none fun x hx => by simpa using List.find?_eq_none.1 hf x hx⟩
  | some x =>
    right
    obtain ⟨hp, l1, l2, rfl, hb⟩ := List.find?_eq_some_iff_append.1 hf
    have hx : (l1 ++ x :: l2)[l1.length]? = some x := by simp
    refine ⟨l1.length, x, hx, rfl, place_at hx hp fun j y hj hy => ?_⟩
    rw [List.getElem?_append_left hj] at hy
    simpa using hb y (List.mem_of_getElem? hy)
end Go.Proofs.YtefdhlmljocnkaaDoor
namespace Go.Proofs.YtefdhlmljocnkaaDoor
open Go.RowKit
/-- A cell of a row of binds turned. -/
theorem cells_last (B : List Bd) (k : Nat) (x : Bd) (hx : B[k]? = some x) (now : Int) : KB.cells (B.set k (x.at now)) = (KB.cells B).set (k * 23 + 22) (.int .i64 now) := by
  have hk := (List.getElem?_eq_some_iff.1 hx).1
  refine List.ext_getElem? fun j => ?_
  by_cases hj : j < B.length * 23
  · have hq : j / 23 < B.length := by omega
    have hm : j % 23 < 23 := Nat.mod_lt _ (by omega)
    have hd : j / 23 * 23 + j % 23 = j := by omega
    have h1 := KB.cells_at B (j / 23) (j % 23) _ (List.getElem?_eq_getElem hq) hm
    rw [show j / 23 * KB.sz + j % 23 = j from hd] at h1
    by_cases he : j / 23 = k
    · have h2 := KB.cells_at (B.set k (x.at now)) (j / 23) (j % 23) (x.at now) (by rw [he, List.getElem?_set_self hk]) hm
      rw [show j / 23 * KB.sz + j % 23 = j from hd] at h2
      rw [h2, List.getElem?_set]
      have hxe : B[j / 23] = x := Option.some.inj (by rw [← List.getElem?_eq_getElem hq, he, hx])
      rw [hxe] at h1
      by_cases hl : j % 23 = 22
      · rw [if_pos (by omega), if_pos (by rw [KB.cells_length]; show k * 23 + 22 < B.length * 23; omega), hl]
        rfl
      · rw [if_neg (by omega), h1]
        show ((x.at now).cells.toList)[j % 23]? = (x.cells.toList)[j % 23]?
        have e1 : (x.at now).cells = x.flow.cells ++ #[.int .i64 x.near, .int .i64 x.back, .int .i64 x.far, .int .i64 now] := rfl
        have e2 : x.cells = x.flow.cells ++ #[.int .i64 x.near, .int .i64 x.back, .int .i64 x.far, .int .i64 x.last] := rfl
        have hfl : x.flow.cells.size = 19 := rfl
        rw [Array.getElem?_toList, Array.getElem?_toList, e1, e2]
        by_cases h19 : j % 23 < 19
        · rw [Array.getElem?_append_left (by rw [hfl]; exact h19), Array.getElem?_append_left (by rw [hfl]; exact h19)]
        · rw [Array.getElem?_append_right (by rw [hfl]; omega), Array.getElem?_append_right (by rw [hfl]; omega), hfl]
          have h3 : j % 23 = 19 ∨ j % 23 = 20 ∨ j % 23 = 21 := by omega
          rcases h3 with h | h | h <;> rw [h] <;> rfl
    · have h2 := KB.cells_at (B.set k (x.at now)) (j / 23) (j % 23) B[j / 23] (by rw [List.getElem?_set_ne (fun e => he e.symm)]; exact List.getElem?_eq_getElem hq) hm
      rw [show j / 23 * KB.sz + j % 23 = j from hd] at h2
      rw [h2, List.getElem?_set_ne (by omega), h1]
  · rw [List.getElem?_eq_none (by rw [KB.cells_length, List.length_set]; show B.length * 23 ≤ j; omega), List.getElem?_eq_none (by rw [List.length_set, KB.cells_length]; show B.length * 23 ≤ j; omega)]
theorem own_last {w : World} {t : TypeId} {b n cap g k : Nat} {B : List Bd} {x : Bd} (h : KB.Own t w b (.slice (some ⟨g, 0, none⟩) n cap) B) (hx : B[k]? = some x) (now : Int) :
    KB.Own t (w.setCell ⟨g, k * 23 + 22, none⟩ (.int .i64 now)) b (.slice (some ⟨g, 0, none⟩) n cap) (B.set k (x.at now)) := by
  have hk := (List.getElem?_eq_some_iff.1 hx).1
  refine ⟨by rw [KB.cells_length], ?_⟩
  rcases h.2 with ⟨h0, _⟩ | ⟨g', cap', cur, he, hg, hh, hc, hm, hs, ht⟩
  · cases h0
  · cases he
    refine .inr ⟨g, cap, cur.setIfInBounds (k * 23 + 22) (.int .i64 now), by rw [List.length_set], hg, ?_, by rw [List.length_set]; exact hc, hm, by rw [Array.size_setIfInBounds]; exact hs, ?_⟩
    · have hB : Blk w g t cur := hh
      exact hB.put _ _
    · rw [List.length_set, Array.toList_setIfInBounds, cells_last B k x hx now, ← ht]
      rw [List.take_set]
/-- useB at the place of the bind. -/
theorem useB_set {s : PS} {B : List Bd} (h : Inv0 s B) {k : Nat} {x : Bd} (hx : B[k]? = some x) (now : Int) : useB x.near now B = B.set k (x.at now) := by
  have hk := (List.getElem?_eq_some_iff.1 hx).1
  refine List.ext_getElem? fun j => ?_
  unfold useB
  rw [List.getElem?_map, List.getElem?_set]
  by_cases hj : k = j
  · subst hj
    rw [if_pos rfl, if_pos hk, hx]
    simp
  · rw [if_neg hj]
    cases hy : B[j]? with
    | none => rfl
    | some y =>
      have : y.near ≠ x.near := fun he => hj ((List.getElem?_inj (i := k) (j := j) (by simpa using hk) h.nears).1 (by simp [hx, hy, he]))
      simp [this]
set_option maxRecDepth 100000 in
set_option maxHeartbeats 2000000 in
theorem ruse_any (g : RG) (b : Nat) (v : Value) (s : PS) (B : List Bd) (near now : Int) (w : World) (h : RT w g b v s B) (hI : Inv0 s B) (hB : B.length ≤ 65536) :
    Calls Tryd.prog 19 #[.pointer (some ⟨g.gR, 0, none⟩), .int .i64 near, .int .i64 now] w fun e w' => e = .returned (.int .i64 (bUseQ near now B)) ∧ RT w' g b v s (if bUseQ near now B = 0 then useB near now B else B) ∧ Kp v.ownBlock.toList w w' := by
  have HH := Lib.hid h
  have HP := Lib.hid (rport_place g b v s B near w h hB)
  obtain ⟨a, c, hv, hc, hs, hlb, _⟩ := h.own.open
  have c1 : w.cell? ⟨g.gR, 1, none⟩ = some v := h.ptr.cells 1
  rcases place_find (fun b => b.near == near) B with ⟨hf, hp⟩ | ⟨k, x, hx, hf, hp⟩
  · have e : bUseQ near now B = 4 := by unfold bUseQ findN; rw [hf]
    rw [hp] at HP
    rw [e]
    clear h hv hc hs c1 hf hp hlb
    go_enter Tryd.func19, Tryd.ntmps19
    go_wp2_with fail
    refine HP.out.mono ?_
    rintro e w' ⟨rfl, rfl⟩
    go_wp2_with fail
    go_returns
    exact ⟨rfl, HH.out, Kp.refl _ _⟩
  · have hxn : x.near = near := by have := List.find?_some hf; simpa using this
    have hk := (List.getElem?_eq_some_iff.1 hx).1
    rw [hp] at HP
    have dk : decide ((k : Int) < 0) = false := decide_eq_false (by omega)
    cases ht : okT now
    case false =>
      have e : bUseQ near now B = 1 := by unfold bUseQ findN; rw [hf]; dsimp only; rw [if_neg (by rw [ht]; decide)]
      have HT := Lib.hid (rtick_any now w)
      rw [ht] at HT
      rw [e]
      clear h hv hc hs c1 hf hp ht hlb hx
      go_enter Tryd.func19, Tryd.ntmps19
      go_wp2_with fail
      refine HP.out.mono ?_
      rintro e w' ⟨rfl, rfl⟩
      go_wp2_with fail
      refine HT.out.mono ?_
      rintro e w' ⟨rfl, rfl⟩
      go_wp2_with fail
      go_returns
      exact ⟨rfl, HH.out, Kp.refl _ _⟩
    case true =>
      have HT := Lib.hid (rtick_any now w)
      rw [ht] at HT
      obtain ⟨n, hn⟩ : ∃ n, B.length = n := ⟨_, rfl⟩
      have hkn : (k : Int) < (n : Int) := by omega
      rcases h.own.2 with ⟨h0, h1⟩ | ⟨gv, cap, cur, h0, hg, hh, _⟩
      · rw [h1] at hk; omega
      subst h0
      rw [hn] at hv c1 HH
      have hlt : gv < w.heap.size := (Array.getElem?_eq_some_iff.1 hh).1
      cases hv
      rw [hn] at hs
      have cl : w.cell? ⟨gv, k * 23 + 22, none⟩ = some (.int .i64 x.last) := by
        rcases hs.2 with h2 | ⟨b', off', hb, hcs⟩
        · omega
        · cases hb
          have := hcs k x hx 22 _ rfl
          rw [Nat.zero_add] at this
          exact this
      have fr : w.frozen? ⟨gv, k * 23 + 22, none⟩ = false := Blk.free (t := 53) (cs := cur) hh _
      have HO := Lib.hid (And.intro h.own (And.intro hx hI))
      rw [hn] at HO
      by_cases hl : now < x.last
      · have e : bUseQ near now B = 9 := by unfold bUseQ findN; rw [hf]; dsimp only; rw [if_pos ht, if_pos hl]
        have hl' : decide (now < x.last) = true := decide_eq_true hl
        rw [e]
        clear h hc hs hf hp ht hlb hx hl hh hg
        go_enter Tryd.func19, Tryd.ntmps19
        go_wp2_with fail
        refine HP.out.mono ?_
        rintro e w' ⟨rfl, rfl⟩
        go_wp2_with fail
        refine HT.out.mono ?_
        rintro e w' ⟨rfl, rfl⟩
        go_wp2_with fail
        go_returns
        exact ⟨rfl, HH.out, Kp.refl _ _⟩
      · have e : bUseQ near now B = 0 := by unfold bUseQ findN; rw [hf]; dsimp only; rw [if_pos ht, if_neg hl]
        have hl' : decide (now < x.last) = false := decide_eq_false hl
        rw [e]
        clear h hc hs hf hp ht hlb hx hl hh hg
        go_enter Tryd.func19, Tryd.ntmps19
        go_wp2_with fail
        refine HP.out.mono ?_
        rintro e w' ⟨rfl, rfl⟩
        go_wp2_with fail
        refine HT.out.mono ?_
        rintro e w' ⟨rfl, rfl⟩
        go_wp2_with fail
        go_returns
        obtain ⟨ho, hx, hI⟩ := HO.out
        have hkp : Kp [gv] w' (w'.setCell ⟨gv, k * 23 + 22, none⟩ (.int .i64 now)) := Kp.ofGrown (only_set (World.grownBy.refl _ _) _ _) (by simp)
        have hlo : ∀ y ∈ g.all, y ∉ [gv] := fun y hy hm => by
          simp at hm
          subst hm
          have h1 := HH.out.lo y hy
          have h2 := (ho.lt y rfl).1
          omega
        refine ⟨rfl, ?_, hkp⟩
        rw [← hxn, useB_set hI hx now]
        obtain ⟨r, hr, hlk⟩ := HH.out.prt
        refine ⟨HH.out.ptr.kp hkp (hlo _ (by simp [RG.all])), ⟨r, ⟨hr.ptr.kp hkp (hlo _ (by simp [RG.all])), hr.who.kp hkp (hlo _ (by simp [RG.all])), hr.tak.kp hkp (hlo _ (by simp [RG.all])), hr.ne, hr.n0, hr.n1⟩, hlk⟩, ?_, HH.out.apart, HH.out.lo, Nat.le_trans HH.out.base hkp.size⟩
        exact own_last ho hx now
end Go.Proofs.YtefdhlmljocnkaaDoor
