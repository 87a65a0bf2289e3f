/- Lemmas of this seat, bound together: TabA BdSort BdSorted Pkd To4 TopL. Conditions: as each lemma states them. -/
import Derived.Test.YtbjogkpepfgegaaGreatDoorK23
import Derived.Test.YtbjogkpepfgegaaGreatDoorK35
import Derived.Shelf.SlSortCmp.WholeK
import Derived.Test.YtbjogkpepfgegaaGreatDoorK32
import Derived.Test.YtbjogkpepfgegaaGreatDoorK34
import Derived.Test.YtbjogkpepfgegaaGreatDoorK17
namespace Go.Proofs.YtbjogkpepfgegaaGreatDoor
open Go.RowKit
/-- A step of a range over a table's ports. -/
theorem at_nextT {w : World} {r gN since cN : Nat} {seen : List Nat} {l : List Te} {ops : Array Oper} {rest : List Oper} {o : Oper} {a : Act} {Q : Exit → Act → World → Prop} (hg : o.guard = none) (it : Operand) (hop : o.op = Op.next it false) (hit : a.eval it = .pointer (some ⟨r, 0, none⟩))
    (h : MapIs keyI w gN (l.map Te.inN) cN) (hi : It w r gN since seen) (hrg : r ≠ gN) (hold : ∀ y ∈ l, y.sN < since) (hsc : since ≤ cN) (hn : (l.map Te.sN).Nodup)
    (hDone : (∀ y ∈ l, y.sN ∈ seen) → wpList Tryz.prog ops Q rest (a.put o.dst (.tuple #[.bool false])) w)
    (hMore : ∀ y w', y ∈ l → y.sN ∉ seen → It w' r gN since (seen ++ [y.sN]) → Kp [r] w w' → (Instr.entry (.pointer (some ⟨r, 0, none⟩))).run Tryz.prog w' = .ok (.tuple #[.int .i64 y.b.near, .agg y.b.cells]) w' → wpList Tryz.prog ops Q rest (a.put o.dst (.tuple #[.bool true, .int .i64 y.b.near, .agg y.b.cells])) w') :
    wpList Tryz.prog ops Q (o :: rest) a w := by
  refine at_nextmap hg it hop hit h hi hrg (fun x hx => by obtain ⟨y, hy, rfl⟩ := List.mem_map.1 hx; exact hold y hy) hsc (by rw [List.map_map]; exact hn) (fun hall => hDone fun y hy => hall y.inN (List.mem_map_of_mem hy)) ?_
  intro x w' hx hs hI hk hen
  obtain ⟨y, hy, rfl⟩ := List.mem_map.1 hx
  exact hMore y w' hy hs hI hk hen
/-- What sorted makes of binds that the call owns, of a table's binds. -/
def SortsTo (B : List Bd) : Prop := ∀ (v : Value) (xs : List Bd) (b : Nat) (w : World), xs.Perm B → KB.Own 52 w b v xs → Calls Tryz.prog 81 #[v] w fun e w' => e = .returned v ∧ KB.Own 52 w' b v B ∧ w.grownBy w' v.ownBlock
set_option maxRecDepth 100000 in
set_option maxHeartbeats 2000000 in
theorem tall_any (gT gP gB gF gN : Nat) (s : PS) (l : List Te) (cF cN : Nat) (B : List Bd) (w : World) (h : Tab w gT gP gB gF gN s l cF cN) (p : (l.map Te.b).Perm B) (hnd : (l.map Te.sN).Nodup) (hB : B.length ≤ 65536) (hS : SortsTo B) :
    Calls Tryz.prog 38 #[.pointer (some ⟨gT, 0, none⟩)] w fun e w' => ∃ v, e = .returned v ∧ KB.Own 52 w' w.heap.size v B ∧ Ext w w' := by
  have c2 : w.cell? ⟨gT, 2, none⟩ = some (.map (some gN)) := h.ptr.cells 2
  have HM := Lib.hid h.nears
  have hNl := h.nears.lt
  have hll : l.length ≤ 65536 := by have := p.length_eq; simp at this; omega
  have HP := Lib.hid (And.intro p (And.intro hnd hS))
  clear h p hnd hS
  go_enter Tryz.func38, Tryz.ntmps38
  go_wp2_with (first | (at_range; refine at_map rfl _ 115 52 rfl HM.out rfl Tryz.underlying115 ?_; intro W0 hI0 E0 hs0))
  have g0 := W0.heap.size
  go_frame
  go_loopw [3] (fun v wr => ∃ d : List Te, Vis l d ∧ It wr w.heap.size gN cN (d.map Te.sN) ∧ KB.Own 52 wr (w.heap.size + 1) v (d.map Te.b) ∧ Ext w wr ∧ w.heap.size + 1 ≤ wr.heap.size) (fun _ wr => l.length - itSeen wr w.heap.size)
  case atStart => exact ⟨[], ⟨fun _ h => (by cases h), List.nodup_nil⟩, hI0, Kin.Own.nil _ _, E0, by omega⟩
  case round =>
    clear hI0 E0 hs0
    obtain ⟨d, hV, hI, ho, hE, hs⟩ := hrel
    have hcount := hI.count
    have HV := Lib.hid (And.intro hV (And.intro ho hE))
    have MN := HM.out.ext hE
    have hl := hV.len
    have hC : l.length - itSeen wr w.heap.size = l.length - d.length := by rw [hcount]; simp
    clear hV ho hE
    have hold : ∀ y ∈ l, y.sN < cN := fun y hy => MN.old y.inN (List.mem_map_of_mem hy)
    go_wp2_with (first | ((apply load_by rfl _ _ rfl _ rfl); (focus (with_reducible assumption))) | ((apply store_by rfl _ _ _ rfl _ rfl); (focus (with_reducible assumption)); (focus rfl)) | (at_next; refine at_nextT rfl _ rfl rfl MN hI (by omega) hold (Nat.le_refl _) HP.out.2.1 (fun hall => ?_) (fun y w1 hy hns hI1 hk1 hen => ?_); rotate_left; obtain ⟨⟨f, near, back, far, last⟩, sF, sN⟩ := y; have K8 := Blk.new w1 52 #[.int .i64 0, .int .i64 0, .int .i64 0, .int .i64 0, .int .i64 0, .int .i64 0, .int .i64 0, .int .i64 0, .int .i64 0, .int .i64 0, .int .i64 0, .int .i64 0, .int .i64 0, .int .i64 0, .int .i64 0, .int .i64 0, .int .i64 0, .int .i64 0, .int .i64 0, .int .i64 0, .int .i64 0, .int .i64 0, .int .i64 0]; have st := stoBd K8 ⟨f, near, back, far, last⟩; have K9 := K8.row (Bd.cells ⟨f, near, back, far, last⟩); have ld : (Instr.loadAt 52 (.pointer (some ⟨w1.heap.size, 0, none⟩))).run Tryz.prog _ = .ok (.agg #[.int .i64 f.kind, .int .i64 f.client.x0, .int .i64 f.client.x1, .int .i64 f.client.x2, .int .i64 f.client.x3, .int .i64 f.client.x4, .int .i64 f.client.x5, .int .i64 f.client.x6, .int .i64 f.client.x7, .int .i64 f.port, .int .i64 f.dst.x0, .int .i64 f.dst.x1, .int .i64 f.dst.x2, .int .i64 f.dst.x3, .int .i64 f.dst.x4, .int .i64 f.dst.x5, .int .i64 f.dst.x6, .int .i64 f.dst.x7, .int .i64 f.door, .int .i64 near, .int .i64 back, .int .i64 far, .int .i64 last]) _ := loaBd K9; rotate_right) | (at_builtin; refine Halt.out ?_))
    · have hp : d.Perm l := HV.out.1.all HP.out.2.1 hall
      have hE := HV.out.2.2
      have ho := HV.out.2.1
      refine (HP.out.2.2 u3 (d.map Te.b) (w.heap.size + 1) wr ((hp.map _).trans HP.out.1) ho).mono ?_
      rintro e W9 ⟨rfl, o9, g9⟩
      have hE9 : Ext w W9 := Below.grown hE g9 (by omega) (fun k hk => by have := (ho.lt k hk).1; omega)
      clear hall hp hE ho g9 hI MN hcount hC
      go_wp2_with fail
      go_returns
      exact ⟨_, rfl, o9.mono (Nat.le_succ _), hE9⟩
    · refine Halt.mk ?_
      have ho := HV.out.2.1
      have hE := HV.out.2.2
      have hV := HV.out.1.add hy hns
      have hlen := hV.len
      have hne : ∀ k, u3.ownBlock = some k → w.heap.size + 1 ≤ k := fun k hk => (ho.lt k hk).1
      have o1 := ho.rowed hk1.grown1 (fun k hk he => by have := hne k hk; cases he; omega)
      have hE1 : Ext w w1 := Below.kp hE hk1 (by omega) (fun g hg => by simp at hg; omega)
      have hs1 := hk1.size
      have E3 : Ext w1 _ := (((Ext.refl w1).alloc (.cells #[.int .i64 0, .int .i64 0, .int .i64 0, .int .i64 0, .int .i64 0, .int .i64 0, .int .i64 0, .int .i64 0, .int .i64 0, .int .i64 0, .int .i64 0, .int .i64 0, .int .i64 0, .int .i64 0, .int .i64 0, .int .i64 0, .int .i64 0, .int .i64 0, .int .i64 0, .int .i64 0, .int .i64 0, .int .i64 0, .int .i64 0] 52)).row (k := w1.heap.size) (Nat.le_refl _) (Bd.cells ⟨f, near, back, far, last⟩)).alloc (.cells #[.int .i64 f.kind, .int .i64 f.client.x0, .int .i64 f.client.x1, .int .i64 f.client.x2, .int .i64 f.client.x3, .int .i64 f.client.x4, .int .i64 f.client.x5, .int .i64 f.client.x6, .int .i64 f.client.x7, .int .i64 f.port, .int .i64 f.dst.x0, .int .i64 f.dst.x1, .int .i64 f.dst.x2, .int .i64 f.dst.x3, .int .i64 f.dst.x4, .int .i64 f.dst.x5, .int .i64 f.dst.x6, .int .i64 f.dst.x7, .int .i64 f.door, .int .i64 near, .int .i64 back, .int .i64 far, .int .i64 last] 52)
      have o3 := o1.ext E3
      have i3 := hI1.ext E3
      have hs3 := E3.size
      have hE3 := hE1.trans E3
      clear ho o1 hI1 hE1 E3 hI MN hcount hen K8 K9 st ld hE
      refine appBL rfl _ _ rfl (w.heap.size + 1) u3 (d.map Te.b) rfl o3 _ _ _ [⟨f, near, back, far, last⟩] rfl (Blk.binds1 (b := ⟨f, near, back, far, last⟩) (Blk.at _ _ _ (by simp))) (by simp at hlen ⊢; omega) (by omega) ?_
      intro v9 W9 o9 g9 b9 l9
      have i9 := i3.grown g9 (fun he => by have := hne _ he.symm; omega)
      have hE9 : Ext w W9 := Below.trans hE3 (b9.mono (Nat.le_succ _))
      have hs9 := g9.size
      have hc9 := i9.count
      clear o3 i3 g9 b9 l9
      go_wp2_with fail
      go_roundw
      case rel => exact ⟨d ++ [⟨⟨f, near, back, far, last⟩, sF, sN⟩], hV, by simpa using i9, by simpa using o9, hE9, by omega⟩
      case measure => rw [hC, hc9]; simp at hlen ⊢; omega
end Go.Proofs.YtbjogkpepfgegaaGreatDoor
namespace Go.Proofs.YtbjogkpepfgegaaGreatDoor
open Go.RowKit Go.Shelf Go.Lib Go.Sort
def sortBind_ren : Go.Shelf.Ren := ⟨fun | 6 => 97 | 15 => 110 | 14 => 109 | 28 => 122 | 29 => 123 | 20 => 114 | 21 => 115 | 22 => 116 | 23 => 117 | 24 => 118 | 25 => 119 | 26 => 120 | 27 => 121 | 46 => 124 | 47 => 125 | 48 => 126 | 49 => 127 | 50 => 128 | 57 => 129 | n => n, fun | 22 => 47 | 24 => 52 | 25 => 171 | 3 => 3 | 39 => 125 | 0 => 0 | 53 => 137 | 55 => 222 | 4 => 4 | 46 => 215 | 45 => 214 | 50 => 165 | 5 => 5 | 9 => 9 | 66 => 223 | 70 => 227 | 76 => 229 | 77 => 142 | n => n, fun | n => n⟩
theorem sortBind : Go.Proofs.SlLaysF0.n6 Tryz.prog sortBind_ren := {
  mixed := by kernel_rfl
  f6 := ⟨Tryz.f97.name, by decide, Tryz.func97.trans (congrArg some (by kernel_rfl))⟩
  f14 := ⟨Tryz.f109.name, by decide, Tryz.func109.trans (congrArg some (by kernel_rfl))⟩
  f15 := Tryz.func110.trans (congrArg some (by kernel_rfl))
  f20 := ⟨Tryz.f114.name, by decide, Tryz.func114.trans (congrArg some (by kernel_rfl))⟩
  f21 := ⟨Tryz.f115.name, by decide, Tryz.func115.trans (congrArg some (by kernel_rfl))⟩
  f22 := ⟨Tryz.f116.name, by decide, Tryz.func116.trans (congrArg some (by kernel_rfl))⟩
  f23 := ⟨Tryz.f117.name, by decide, Tryz.func117.trans (congrArg some (by kernel_rfl))⟩
  f24 := ⟨Tryz.f118.name, by decide, Tryz.func118.trans (congrArg some (by kernel_rfl))⟩
  f25 := ⟨Tryz.f119.name, by decide, Tryz.func119.trans (congrArg some (by kernel_rfl))⟩
  f26 := ⟨Tryz.f120.name, by decide, Tryz.func120.trans (congrArg some (by kernel_rfl))⟩
  f27 := ⟨Tryz.f121.name, by decide, Tryz.func121.trans (congrArg some (by kernel_rfl))⟩
  f28 := Tryz.func122.trans (congrArg some (by kernel_rfl))
  f29 := Tryz.func123.trans (congrArg some (by kernel_rfl))
  f46 := ⟨Tryz.f124.name, by decide, Tryz.func124.trans (congrArg some (by kernel_rfl))⟩
  f47 := Tryz.func125.trans (congrArg some (by kernel_rfl))
  f48 := Tryz.func126.trans (congrArg some (by kernel_rfl))
  f49 := ⟨Tryz.f127.name, by decide, Tryz.func127.trans (congrArg some (by kernel_rfl))⟩
  f50 := ⟨Tryz.f128.name, by decide, Tryz.func128.trans (congrArg some (by kernel_rfl))⟩
  f57 := ⟨Tryz.f129.name, by decide, Tryz.func129.trans (congrArg some (by kernel_rfl))⟩
  t0 := Tryz.underlying0
  a0 := Tryz.isAgg0
  z0 := Tryz.sizeOf0
  v0 := Tryz.zeroValue0
  t3 := Tryz.underlying3
  a3 := Tryz.isAgg3
  z3 := Tryz.sizeOf3
  v3 := Tryz.zeroValue3
  t4 := Tryz.underlying4
  a4 := Tryz.isAgg4
  z4 := Tryz.sizeOf4
  v4 := Tryz.zeroValue4
  t5 := Tryz.underlying5
  a5 := Tryz.isAgg5
  z5 := Tryz.sizeOf5
  v5 := Tryz.zeroValue5
  t9 := Tryz.underlying9
  a9 := Tryz.isAgg9
  z9 := Tryz.sizeOf9
  v9 := Tryz.zeroValue9
  t22 := Tryz.underlying47
  a22 := Tryz.isAgg47
  z22 := Tryz.sizeOf47
  v22 := Tryz.zeroValue47
  t25 := Tryz.underlying171
  a25 := Tryz.isAgg171
  z25 := Tryz.sizeOf171
  v25 := Tryz.zeroValue171
  t39 := Tryz.underlying125
  a39 := Tryz.isAgg125
  z39 := Tryz.sizeOf125
  v39 := Tryz.zeroValue125
  t45 := Tryz.underlying214
  a45 := Tryz.isAgg214
  z45 := Tryz.sizeOf214
  v45 := Tryz.zeroValue214
  t46 := Tryz.underlying215
  a46 := Tryz.isAgg215
  z46 := Tryz.sizeOf215
  v46 := Tryz.zeroValue215
  t50 := Tryz.underlying165
  a50 := Tryz.isAgg165
  z50 := Tryz.sizeOf165
  v50 := Tryz.zeroValue165
  t53 := Tryz.underlying137
  a53 := Tryz.isAgg137
  z53 := Tryz.sizeOf137
  v53 := Tryz.zeroValue137
  t55 := Tryz.underlying222
  a55 := Tryz.isAgg222
  z55 := Tryz.sizeOf222
  v55 := Tryz.zeroValue222
  t66 := Tryz.underlying223
  a66 := Tryz.isAgg223
  z66 := Tryz.sizeOf223
  v66 := Tryz.zeroValue223
  t70 := Tryz.underlying227
  a70 := Tryz.isAgg227
  z70 := Tryz.sizeOf227
  v70 := Tryz.zeroValue227
  t76 := Tryz.underlying229
  a76 := Tryz.isAgg229
  z76 := Tryz.sizeOf229
  v76 := Tryz.zeroValue229
  t77 := Tryz.underlying142
  a77 := Tryz.isAgg142
  z77 := Tryz.sizeOf142
  v77 := Tryz.zeroValue142 }


/-- A bind whose port is small in any case. -/
def Bd.cl (b : Bd) : Bd := { b with near := if 0 ≤ b.near ∧ b.near < 65536 then b.near else 0 }
theorem Bd.cl_range (b : Bd) : 0 ≤ b.cl.near ∧ b.cl.near < 65536 := by
  unfold Bd.cl
  dsimp only
  split
  · assumption
  · omega
theorem Bd.cl_eq {b : Bd} (h : 0 ≤ b.near ∧ b.near < 65536) : b.cl = b := by unfold Bd.cl; rw [if_pos h]
instance : Inhabited Bd := ⟨zeroBd⟩
def encB (b : Bd) : List Value := b.cl.cells.toList
def cmpB (a b : Bd) : Int := a.cl.near - b.cl.near
theorem ltB (x y : Bd) : ltOf cmpB x y = decide (x.cl.near < y.cl.near) := by
  unfold ltOf cmpB
  by_cases h : x.cl.near < y.cl.near
  · rw [decide_eq_true h, decide_eq_true (by omega)]
  · rw [decide_eq_false h, decide_eq_false (by omega)]
theorem swoB : SWO (ltOf cmpB) where
  irrefl x := by rw [ltB]; simp
  trans x y z h1 h2 := by rw [ltB] at *; simp at *; omega
  ntrans x y z h1 h2 := by rw [ltB] at *; simp at *; omega
set_option maxRecDepth 100000 in
set_option maxHeartbeats 2000000 in
theorem near_cmp (x y : Bd) (hx : 0 ≤ x.near ∧ x.near < 65536) (hy : 0 ≤ y.near ∧ y.near < 65536) (W : World) : Calls Tryz.prog 98 #[.agg x.cells, .agg y.cells] W fun e w' => e = .returned (.int .i64 (x.near - y.near)) ∧ ∃ q os', w' = grow (W.drewN q) os' := by
  have K1 := (Blk.new W 52 x.cells).alloc (.cells y.cells 52)
  have K2 := Blk.at (n := W.heap.size + 1) (W.alloc (.cells x.cells 52)) 52 y.cells (by simp)
  have c1 := K1.cells 19
  have c2 := K2.cells 19
  change _ = some (Value.int .i64 x.near) at c1
  change _ = some (Value.int .i64 y.near) at c2
  have wr : IntKind.i64.wrap (x.near - y.near) = x.near - y.near := IntWalk.i64_in _ (by omega)
  clear K1 K2
  go_enter Tryz.func98, Tryz.ntmps98
  go_wp2_with fail
  go_returns
  exact ⟨rfl, 0, _, by rw [alloc_eq_grow, alloc_eq_grow, grow_grow]; rfl⟩
theorem cmpLaysB (blk off size : Nat) (w : World) : CmpLays Tryz.prog 98 #[] encB 23 cmpB blk off size w :=
  fun _ _ _ _ x y => near_cmp x.cl y.cl x.cl_range y.cl_range _
/-- A row's cells, flat. -/
theorem flat_at {xs : List Bd} (hr : ∀ b ∈ xs, 0 ≤ b.near ∧ b.near < 65536) {j : Nat} (hj : j < xs.length * 23) : (KB.cells xs)[j]? = some (flatK encB 23 xs.toArray)[j]! := by
  have hq : j / 23 < xs.length := by omega
  have hm : j % 23 < 23 := Nat.mod_lt _ (by omega)
  have hx := List.getElem?_eq_getElem hq
  have h1 := KB.cells_at xs (j / 23) (j % 23) _ hx hm
  rw [show j / 23 * KB.sz + j % 23 = j by show j / 23 * 23 + j % 23 = j; omega] at h1
  rw [h1, get_flatK _ _ _ _ (by simpa using hj)]
  have hg : xs.toArray[j / 23]! = xs[j / 23] := by rw [getElem!_pos _ _ (by simpa using hq)]; rfl
  rw [hg]
  unfold encB
  rw [Bd.cl_eq (hr _ (List.getElem_mem hq))]
  have hl : (xs[j / 23].cells.toList).length = 23 := rfl
  show (xs[j / 23].cells.toList)[j % 23]? = _
  rw [List.getElem?_eq_getElem (by rw [hl]; exact hm), getElem!_pos _ _ (by rw [hl]; exact hm)]
theorem holdsB {w : World} {g n cap : Nat} {cur : Array Value} {t : TypeId} {xs : List Bd} (hr : ∀ b ∈ xs, 0 ≤ b.near ∧ b.near < 65536) (hn : xs.length = n) (hg : w.heap[g]? = some (.cells cur t (0, 0))) (hc : cur.toList.take (n * 23) = KB.cells xs) (_hs : cur.size = cap * 23) :
    HoldsK encB 23 w g 0 xs.toArray := by
  intro j hj
  rw [size_flatK] at hj
  have hj' : j < n * 23 := by simpa [hn] using hj
  have h1 := flat_at hr (by simpa using hj)
  rw [← hc, List.getElem?_take, if_pos hj', Array.getElem?_toList] at h1
  refine ⟨?_, ?_⟩
  · rw [Nat.zero_add, cell_of_row w g j cur t (0, 0) hg, h1]; rfl
  · rw [Nat.zero_add]; exact frozen_of_row w g j cur t hg
end Go.Proofs.YtbjogkpepfgegaaGreatDoor
namespace Go.Proofs.YtbjogkpepfgegaaGreatDoor
open Go.RowKit Go.Shelf Go.Lib Go.Sort
theorem sortW_heap (w : World) (g m : Nat) (d : Array Bd) (os : Array Obj) (hg : g < w.heap.size) :
    (∀ i, i < w.heap.size → i ≠ g → (sortWorldK encB 23 w g 0 m d os).heap[i]? = w.heap[i]?) ∧ (∀ cur t, w.heap[g]? = some (.cells cur t (0, 0)) → (sortWorldK encB 23 w g 0 m d os).heap[g]? = some (.cells (putCells id 0 (flatK encB 23 d) cur) t (0, 0))) ∧ w.heap.size ≤ (sortWorldK encB 23 w g 0 m d os).heap.size := by
  have hz : (putRowK encB 23 (Sort.ahead w m) g 0 d).heap = w.heap.modify g (onCells (putCells id 0 (flatK encB 23 d))) := rfl
  have hz1 : (putRowK encB 23 (Sort.ahead w m) g 0 d).heap.size = w.heap.size := by rw [hz, Array.size_modify]
  unfold sortWorldK
  refine ⟨fun i hi hne => ?_, fun cur t hc => ?_, ?_⟩
  · rw [heap_grow_old _ _ (by rw [hz1]; exact hi), hz, Array.getElem?_modify, if_neg (fun e => hne e.symm)]
  · rw [heap_grow_old _ _ (by rw [hz1]; exact hg), hz, Array.getElem?_modify, if_pos rfl, hc]
    rfl
  · rw [size_grow, hz1]; omega
theorem sortW_grown (w : World) (g m : Nat) (d : Array Bd) (os : Array Obj) (hg : g < w.heap.size) : w.grownBy (sortWorldK encB 23 w g 0 m d os) (some g) :=
  ⟨rfl, rfl, rfl, (sortW_heap w g m d os hg).2.2, fun i hi hne => (sortW_heap w g m d os hg).1 i hi fun e => hne (by rw [e])⟩
set_option maxRecDepth 100000 in
set_option maxHeartbeats 2000000 in
theorem sorts_to (B : List Bd) (hs : B.Pairwise fun a b => a.near < b.near) (hr : ∀ b ∈ B, 0 ≤ b.near ∧ b.near < 65536) (hB : B.length ≤ 65536) : SortsTo B := by
  intro v xs b w p ho
  have hrx : ∀ c ∈ xs, 0 ≤ c.near ∧ c.near < 65536 := fun c hc => hr c (p.mem_iff.1 hc)
  have hl := p.length_eq
  rcases ho.2 with ⟨rfl, h0⟩ | ⟨g, cap, cur, rfl, hbg, hh, hcap, hmax, hcs, htk⟩
  · obtain rfl : xs = [] := List.length_eq_zero_iff.1 h0
    obtain rfl : B = [] := List.length_eq_zero_iff.1 (by simpa using hl.symm)
    have HO := Lib.hid ho
    clear hl hs hr hB hrx p h0
    go_enter Tryz.func81, Tryz.ntmps81
    go_wp2_with fail
    refine (sort_zero _ w).mono ?_
    rintro e w' ⟨rfl, rfl⟩
    go_wp2_with fail
    go_returns
    exact ⟨rfl, HO.out, World.grownBy.refl _ _⟩
  · have hg : g < w.heap.size := (Array.getElem?_eq_some_iff.1 hh).1
    have eg : ∀ args w, (callFunc 98 args).run Tryz.prog w = .ok (.enter 98 args) w := enters_of Tryz.func98 (by kernel_rfl) rfl
    have hH := holdsB (n := xs.length) hrx rfl hh htk hcs
    have hcon := AnyQ.slices_SortFunc sortBind 23 Tryz.isAgg52 Tryz.sizeOf52 encB (fun _ => rfl) (fun x u hu => (Array.all_eq_true_iff_forall_mem.1 x.cl.one) u (by simpa [encB] using hu)) cmpB swoB 98 #[] g 0 cap xs.toArray w eg (cmpLaysB g 0 xs.toArray.size w) hH hg (by simp; omega)
    change Calls Tryz.prog 97 _ _ _ at hcon
    have HC := Lib.hid hcon
    have HX := Lib.hid (And.intro hrx (And.intro hh (And.intro hcs (And.intro htk hg))))
    have HS := Lib.hid (And.intro hs (And.intro p (And.intro hl hbg)))
    have HM := Lib.hid (And.intro hcap hmax)
    obtain ⟨n, hn⟩ : ∃ n, xs.length = n := ⟨_, rfl⟩
    have HN := Lib.hid hn
    clear hcon hs hr hB hrx p hh hcs htk hH ho hl hcap hmax
    rw [hn]
    go_enter Tryz.func81, Tryz.ntmps81
    go_wp2_with fail
    have hq := HC.out
    rw [show xs.toArray.size = n from HN.out] at hq
    refine hq.mono ?_
    rintro e w' ⟨rfl, d', m, os, hp, hso, rfl⟩
    clear hq
    have HD := Lib.hid (And.intro hp hso)
    have HW := Lib.hid (And.intro (sortW_grown w g m d' os HX.out.2.2.2.2) ((sortW_heap w g m d' os HX.out.2.2.2.2).2.1 cur _ HX.out.2.1))
    clear hp hso
    generalize sortWorldK encB 23 w g 0 m d' os = W at *
    go_wp2_with fail
    go_returns
    obtain ⟨⟨hsz, _, hperm⟩, hsrt⟩ := HD.out
    have hsz' : d'.size = n := hsz.trans HN.out
    have hperm' : d'.toList.Perm xs := by
      have e1 : d'.extract 0 n = d' := by rw [← hsz']; simp
      have e2 : xs.toArray.extract 0 n = xs.toArray := by rw [← HN.out]; simp
      rw [e1, e2] at hperm
      exact hperm
    have hmem : ∀ c ∈ d'.toList, 0 ≤ c.near ∧ c.near < 65536 := fun c hc => HX.out.1 c (hperm'.mem_iff.1 hc)
    have hnd : (d'.toList.map (·.near)).Nodup := by
      refine ((hperm'.trans HS.out.2.1).map (·.near)).symm.nodup ?_
      unfold List.Nodup
      rw [List.pairwise_map]
      exact HS.out.1.imp fun hlt he => by omega
    have hsd : d'.toList.Pairwise fun a b => a.near < b.near := by
      rw [List.pairwise_iff_getElem]
      intro i j hi hj hij
      have hi' : i < d'.size := by simpa using hi
      have hj' : j < d'.size := by simpa using hj
      have h1 := hsrt i j (Nat.zero_le _) hij (by rw [← hsz']; exact hj')
      rw [ltB, getElem!_pos d' i hi', getElem!_pos d' j hj'] at h1
      rw [Bd.cl_eq (hmem _ (by simp)), Bd.cl_eq (hmem _ (by simp))] at h1
      simp only [decide_eq_false_iff_not, Int.not_lt] at h1
      have h2 : d'[i].near ≠ d'[j].near := fun he => by
        have := (List.getElem?_inj (i := i) (j := j) (by simp only [List.length_map]; exact hi) hnd).1 (by simp [hi', hj', he])
        omega
      simp only [Array.getElem_toList]
      omega
    have hB : d'.toList = B := sorted_eq (hperm'.trans HS.out.2.1) hsd HS.out.1
    refine ⟨rfl, ?_, HW.out.1⟩
    have hBl : B.length = n := by rw [← hB]; simpa using hsz'
    refine ⟨by rw [KB.cells_length], .inr ⟨g, cap, putCells id 0 (flatK encB 23 d') cur, by rw [hBl], HS.out.2.2.2, HW.out.2, by rw [hBl]; exact HN.out ▸ HM.out.1, HM.out.2, ?_, ?_⟩⟩
    · unfold putCells
      rw [Array.size_mapIdx]
      exact HX.out.2.2.1
    · rw [hBl]
      refine List.ext_getElem? fun j => ?_
      have hcz := HX.out.2.2.1
      have hcp : n ≤ cap := HN.out ▸ HM.out.1
      have hnc : n * 23 ≤ cap * 23 := Nat.mul_le_mul_right 23 hcp
      by_cases hj : j < n * 23
      · have h1 := flat_at hmem (j := j) (by rw [Array.length_toList, hsz']; exact hj)
        rw [← hB, h1]
        rw [show KB.sz = 23 from rfl, List.getElem?_take, if_pos hj, Array.getElem?_toList]
        unfold putCells
        rw [Array.getElem?_mapIdx, Array.getElem?_eq_getElem (by have : cur.size = cap * 23 := hcz; omega)]
        simp only [Option.map_some, Nat.zero_le, true_and, Nat.zero_add, Nat.sub_zero, size_flatK, hsz', if_pos hj, id]
      · rw [List.getElem?_eq_none (by rw [List.length_take]; show min (n * 23) _ ≤ j; omega), List.getElem?_eq_none (by rw [KB.cells_length, hBl]; show n * 23 ≤ j; omega)]
/-- All, whole. -/
theorem Inv.range {s : PS} {B : List Bd} (h : Inv0 s B) (hn : s.n ≤ 16) : (∀ b ∈ B, 0 ≤ b.near ∧ b.near < 65536) ∧ B.length ≤ 128 := by
  refine ⟨fun b hb => ?_, ?_⟩
  · obtain ⟨i, h1, h2, _⟩ := h.near hb
    omega
  · have h1 := h.pa.many
    have h2 : s.used s.n ≤ 8 * s.n := Pl.cnt_le _ _ _
    rw [List.length_map] at h1
    omega
theorem all_any (G : TG) (s : PS) (B : List Bd) (w : World) (h : TB w G s B) :
    Calls Tryz.prog 38 #[.pointer (some ⟨G.gT, 0, none⟩)] w fun e w' => ∃ v, e = .returned v ∧ KB.Own 52 w' w.heap.size v B ∧ Ext w w' := by
  obtain ⟨l, cF, cN, ht, p, hnd⟩ := h.ex
  obtain ⟨h1, h2⟩ := Inv.range h.inv.toInv0 ht.prt.n1
  exact tall_any _ _ _ _ _ s l cF cN B w ht p hnd (by omega) (sorts_to B h.inv.sorted h1 (by omega))
end Go.Proofs.YtbjogkpepfgegaaGreatDoor
namespace Go.Proofs.YtbjogkpepfgegaaGreatDoor
open Go.RowKit
theorem Blk.ldi {w : World} {g : Nat} {t : TypeId} {cs : Array Value} (h : Blk w g t cs) (i : Nat) (x : Int) (hi : cs[i]? = some (.int .i64 x)) : (Instr.loadAt 3 (.pointer (some ⟨g, i, none⟩))).run Tryz.prog w = .ok (.int .i64 x) w := by
  have hc := (h.cells i).trans hi
  simp [Instr.loadAt, Instr.sureAddr, loadVar, isAgg, underlying, Tryz.underlying3, hc, Result.andThen]

end Go.Proofs.YtbjogkpepfgegaaGreatDoor
namespace Go.Proofs.YtbjogkpepfgegaaGreatDoor
open Go.RowKit
/-- What is wrong with a packet that is to cross. -/
def x4Q (p : P6) (n : Nat) (xs : List Int) (src dst : Int) : Int :=
  if p.fault n ≠ 0 then p.fault n else if ¬ (w32 src = true ∧ w32 dst = true) then 1
  else if Pl.opQ p.kind xs (val6 p.src p.dst p.kind n) ≠ 0 then Pl.opQ p.kind xs (val6 p.src p.dst p.kind n) else if p.hop < 2 then 7 else 0
def zq (Q x : Int) : Int := if Q = 0 then x else 0
def x4B (p : P6) (xs : List Int) (src dst Q : Int) : List Int := if Q = 0 then body4 (Pl.decSeg p.kind xs) src dst (xs.drop (Pl.segSize p.kind)) else []
def x4c (p : P6) (src dst Q : Int) (v : Value) : Array Value := c4 (zq Q src) (zq Q dst) (zq Q (p.hop - 1)) (zq Q p.kind) 0 v
def X4Got (p : P6) (xs : List Int) (src dst Q : Int) (err : Value) (w : World) (e : Ending) (w' : World) : Prop :=
  ∃ a n c, e = .returned (.tuple #[.agg (x4c p src dst Q (.slice a n c)), err]) ∧ Own w' w.heap.size (.slice a n c) (x4B p xs src dst Q) ∧ Ext w w'
theorem x4_bad {p : P6} {xs : List Int} {src dst Q : Int} {err v : Value} {w w' : World} (hq : Q ≠ 0) (hv : v = err) (he : Ext w w') : X4Got p xs src dst Q err w (.returned (.tuple #[.agg (c4 0 0 0 0 0 (.slice none 0 0)), v])) w' := by
  subst hv
  refine ⟨none, 0, 0, ?_, ?_, he⟩
  · unfold x4c zq
    rw [if_neg hq, if_neg hq, if_neg hq, if_neg hq]
  · unfold x4B
    rw [if_neg hq]
    exact Own.nil _ _
theorem op_zero {k over : Int} {xs : List Int} (hb : Pl.IsB xs) (h : Pl.opQ k xs over = 0) : (k = 6 ∨ k = 17) ∧ Pl.opV k xs over = Pl.decSeg k xs ∧ Pl.opD k xs over = xs.drop (Pl.segSize k) ∧ Pl.SegOk (Pl.decSeg k xs) (xs.drop (Pl.segSize k)).length ∧ Pl.segQ k xs over = 0 := by
  have hv : Pl.opV k xs over = Pl.decSeg k xs := by unfold Pl.opV; rw [if_pos h]
  have hd : Pl.opD k xs over = xs.drop (Pl.segSize k) := by unfold Pl.opD; rw [if_pos h]
  have h' := h
  unfold Pl.opQ at h'
  split at h'
  · cases h'
  obtain ⟨h1, _, _, _, h5⟩ := Pl.segQ_zero hb h'
  exact ⟨h1, hv, hd, h5, h'⟩
end Go.Proofs.YtbjogkpepfgegaaGreatDoor
namespace Go.Proofs.YtbjogkpepfgegaaGreatDoor
open Go.RowKit
theorem zero_pick (n : Nat) (who : Six) (hn : 1 ≤ n) : (PS.zero n).pick who = 0 := by
  have h1 : ∀ k, (PS.zero n).mine who k = false := fun k => by unfold PS.mine; rw [PS.zero_many]; rfl
  have h2 : (PS.zero n).fresh 0 = true := by unfold PS.fresh; rw [PS.zero_many]; rfl
  unfold PS.pick
  have e : Pl.first ((PS.zero n).mine who) (PS.zero n).n = (PS.zero n).n := Pl.first_none fun j _ => h1 j
  rw [e, if_neg (by omega)]
  exact Pl.first_eq (show 0 < n by omega) h2 fun j hj => by omega
theorem zero_takeQ (n : Nat) (who : Six) (hn : 1 ≤ n) (ho : okS who = true) : (PS.zero n).takeQ who = 0 := by
  unfold PS.takeQ
  rw [if_pos ho, zero_pick n who hn]
  exact if_pos (show 0 < n by omega)
theorem zero_takeN (n : Nat) (who : Six) (hn : 1 ≤ n) (ho : okS who = true) : (PS.zero n).takeN who = 1024 := by
  unfold PS.takeN
  rw [if_pos (zero_takeQ n who hn ho), zero_pick n who hn]
  have : (PS.zero n).low 0 = 0 := by
    unfold PS.low
    exact Pl.first_eq (by omega) rfl fun j hj => by omega
  rw [this]
  rfl
section
variable {s : Sg} {src dst : Six} {hop : Int} {D : List Int} {c : Cfg} {bs : List Pl.Back}
theorem SentOk.okF (h : SentOk s src dst hop D.length) : okF (segFlow ⟨src, dst, hop, s.kind⟩ s) = true :=
  okF_iff.2 ⟨h.seg.1, h.src, h.dst, h.seg.2.1, h.seg.2.2.1⟩
/-- The first bind. -/
def oneBd (f : Flow) (A W : Int) : Bd := ⟨f, 1024, A, W, 0⟩
theorem first_bind {f : Flow} {flags : Int} (hf : okF f = true) (hn : 1 ≤ c.blocks) (hsyn : gSyn f.kind flags = true) (ht : gToQ c bs f = 0) (hA : 0 ≤ gToA c bs f ∧ gToA c bs f < 4294967296) (hD : 0 ≤ gToD c bs f ∧ gToD c bs f ≤ 65535) :
    gBind c bs (PS.zero c.blocks.toNat) [] 0 f flags = ⟨0, oneBd f (gToA c bs f) (gToD c bs f), (PS.zero c.blocks.toNat).take f.client, [oneBd f (gToA c bs f) (gToD c bs f)]⟩ := by
  have hcl : okS f.client = true := (okF_iff.1 hf).2.1
  have hb : 1 ≤ c.blocks.toNat := by omega
  have hq : bMakeQ f (gToA c bs f) (gToD c bs f) 0 (PS.zero c.blocks.toNat) [] = 0 := by
    unfold bMakeQ
    rw [if_pos hf, if_pos (by rw [okA_iff.2 hA, w16_iff.2 hD]; rfl), if_neg (by simp [findF])]
    exact zero_takeQ _ _ hb hcl
  have hnb : newBd f (gToA c bs f) (gToD c bs f) 0 (PS.zero c.blocks.toNat) = oneBd f (gToA c bs f) (gToD c bs f) := by
    unfold newBd oneBd
    rw [zero_takeN _ _ hb hcl]
  show gNew _ _ _ _ _ _ _ = _
  unfold gNew
  rw [if_pos hsyn, if_pos ht]
  unfold gMade
  rw [if_pos hq, hnb]
  rfl
theorem first_none_bind {f : Flow} {flags : Int} (h : gToQ c bs f ≠ 0) (hsyn : gSyn f.kind flags = true) : gBind c bs (PS.zero c.blocks.toNat) [] 0 f flags = ⟨gToQ c bs f, zeroBd, PS.zero c.blocks.toNat, []⟩ := by
  show gNew _ _ _ _ _ _ _ = _
  unfold gNew
  rw [if_pos hsyn, if_neg h]
theorem first_in6 (h : SentOk s src dst hop D.length) (hh : 2 ≤ hop) (hn : 1 ≤ c.blocks) (hw : gWhQ c (segFlow ⟨src, dst, hop, s.kind⟩ s) = 0) (hsyn : gSyn s.kind s.flags = true) (ht : gToQ c bs (segFlow ⟨src, dst, hop, s.kind⟩ s) = 0)
    {A W : Int} (eA : gToA c bs (segFlow ⟨src, dst, hop, s.kind⟩ s) = A) (eW : gToD c bs (segFlow ⟨src, dst, hop, s.kind⟩ s) = W) (hA : 0 ≤ A ∧ A < 4294967296) (hD : 0 ≤ W ∧ W ≤ 65535) :
    g6 c bs (PS.zero c.blocks.toNat) [] 0 (sent6 s src dst hop D) = ⟨0, sent4 (s.ports 1024 W) c.near A (hop - 1) D, (PS.zero c.blocks.toNat).take src, [oneBd (segFlow ⟨src, dst, hop, s.kind⟩ s) A W]⟩ := by
  subst eA
  subst eW
  rw [g6_sent h]
  unfold g6seg
  rw [if_neg (by show ¬ hop < 2; omega), if_pos hw, first_bind h.okF hn hsyn ht hA hD]
  rfl
/-- The answer to it. -/
theorem first_in4 {s : Sg} {D : List Int} (h : Pl.SegOk s D.length) {ttl A : Int} (hh : 2 ≤ ttl) {f : Flow} (hk : f.kind = s.kind) (hto : s.to = 1024) (p : PS) :
    g4 c p [oneBd f A s.frm] 0 A c.near ttl s.kind (body4 s A c.near D) = ⟨0, sent6 (s.ports f.door f.port) f.dst f.client (ttl - 1) D, p, [oneBd f A s.frm]⟩ := by
  rw [g4_sent h]
  unfold g4seg
  have hb : bNear s.kind s.to [oneBd f A s.frm] = some (oneBd f A s.frm) := by
    unfold bNear findN
    rw [hto]
    simp [oneBd, hk, Option.filter]
  have hq : bUseQ (oneBd f A s.frm).near 0 [oneBd f A s.frm] = 0 := by
    unfold bUseQ findN
    simp [oneBd, okT]
  rw [if_neg (by omega), hb]
  show g4to c A c.near (oneBd f A s.frm) ttl s D p _ 0 = _
  unfold g4to
  rw [if_pos ⟨rfl, rfl, rfl⟩]
  unfold g4use
  rw [if_pos hq]
  have hu : useB (oneBd f A s.frm).near 0 [oneBd f A s.frm] = [oneBd f A s.frm] := by simp [useB, Bd.at, oneBd]
  rw [hu]
  rfl
end
end Go.Proofs.YtbjogkpepfgegaaGreatDoor
