/- The law BindApart: no two flows have one port; who has one is found by its flow and by its port alike; ports rise; what is used does not expire until its time is over, and then it is gone. Conditions: the row's own: errors.errorType holds its handle (tied). -/
import Derived.Test.YtefdhlmljocnkaaDoorTabA
import Derived.Test.YtefdhlmljocnkaaDoorBind0
import Derived.Shelf.SlSortCmp.WholeK
import Derived.Test.YtefdhlmljocnkaaDoorTabO
import Derived.Test.YtefdhlmljocnkaaDoorTab
import Derived.Test.YtefdhlmljocnkaaDoorFrame
import Derived.Test.YtefdhlmljocnkaaDoorBacks
import Derived.Deep.Slices
import Derived.Test.YtefdhlmljocnkaaDoorRow
import Derived.Test.YtefdhlmljocnkaaDoorStore
import Derived.Test.YtefdhlmljocnkaaDoorFlow
import Derived.Test.YtefdhlmljocnkaaDoorProg
import Derived.WalkKit
import Derived.LaidEql
import Derived.Stop.Asserts
import Derived.RowKitTokens
import Derived.Handy
import Derived.Test.YtefdhlmljocnkaaDoorBase
import Derived.Test.YtefdhlmljocnkaaDoorSum
import Derived.Test.YtefdhlmljocnkaaDoorErv
import Derived.ChangeSame
import Derived.ChangeVars
import Derived.JoinedOf
import Derived.LaidLaws
import Derived.LaidHandle
import Derived.Stop.Joined
import Derived.Test.YtefdhlmljocnkaaDoorTie
import Derived.Test.YtefdhlmljocnkaaDoorCards
import Derived.SevenTiedAt
import Derived.Deep.DeepCutAuto
import Derived.Deep.CutBlock
/- bind.sorted: binds that the call owns, sorted by their ports in place. Conditions: as each lemma states them. -/
namespace Go.Proofs.YtefdhlmljocnkaaDoor
open Go.RowKit Go.Shelf Go.Lib Go.Sort
def sortBind_ren : Go.Shelf.Ren := ⟨fun | 6 => 73 | 15 => 90 | 14 => 89 | 28 => 115 | 29 => 116 | 20 => 107 | 21 => 108 | 22 => 109 | 23 => 110 | 24 => 111 | 25 => 112 | 26 => 113 | 27 => 114 | 46 => 134 | 47 => 135 | 48 => 136 | 49 => 137 | 50 => 138 | 57 => 146 | n => n, fun | 22 => 37 | 24 => 53 | 25 => 148 | 3 => 3 | 39 => 123 | 0 => 0 | 53 => 206 | 55 => 157 | 4 => 4 | 46 => 200 | 45 => 199 | 50 => 108 | 5 => 5 | 9 => 9 | 66 => 224 | 70 => 228 | 76 => 238 | 77 => 114 | n => n, fun | n => n⟩
theorem sortBind : Go.Proofs.SlLaysF0.n6 Tryd.prog sortBind_ren := {
  mixed := by kernel_rfl
  f6 := ⟨Tryd.f73.name, by decide, Tryd.func73.trans (congrArg some (by kernel_rfl))⟩
  f14 := ⟨Tryd.f89.name, by decide, Tryd.func89.trans (congrArg some (by kernel_rfl))⟩
  f15 := Tryd.func90.trans (congrArg some (by kernel_rfl))
  f20 := ⟨Tryd.f107.name, by decide, Tryd.func107.trans (congrArg some (by kernel_rfl))⟩
  f21 := ⟨Tryd.f108.name, by decide, Tryd.func108.trans (congrArg some (by kernel_rfl))⟩
  f22 := ⟨Tryd.f109.name, by decide, Tryd.func109.trans (congrArg some (by kernel_rfl))⟩
  f23 := ⟨Tryd.f110.name, by decide, Tryd.func110.trans (congrArg some (by kernel_rfl))⟩
  f24 := ⟨Tryd.f111.name, by decide, Tryd.func111.trans (congrArg some (by kernel_rfl))⟩
  f25 := ⟨Tryd.f112.name, by decide, Tryd.func112.trans (congrArg some (by kernel_rfl))⟩
  f26 := ⟨Tryd.f113.name, by decide, Tryd.func113.trans (congrArg some (by kernel_rfl))⟩
  f27 := ⟨Tryd.f114.name, by decide, Tryd.func114.trans (congrArg some (by kernel_rfl))⟩
  f28 := Tryd.func115.trans (congrArg some (by kernel_rfl))
  f29 := Tryd.func116.trans (congrArg some (by kernel_rfl))
  f46 := ⟨Tryd.f134.name, by decide, Tryd.func134.trans (congrArg some (by kernel_rfl))⟩
  f47 := Tryd.func135.trans (congrArg some (by kernel_rfl))
  f48 := Tryd.func136.trans (congrArg some (by kernel_rfl))
  f49 := ⟨Tryd.f137.name, by decide, Tryd.func137.trans (congrArg some (by kernel_rfl))⟩
  f50 := ⟨Tryd.f138.name, by decide, Tryd.func138.trans (congrArg some (by kernel_rfl))⟩
  f57 := ⟨Tryd.f146.name, by decide, Tryd.func146.trans (congrArg some (by kernel_rfl))⟩
  t0 := Tryd.underlying0
  a0 := Tryd.isAgg0
  z0 := Tryd.sizeOf0
  v0 := Tryd.zeroValue0
  t3 := Tryd.underlying3
  a3 := Tryd.isAgg3
  z3 := Tryd.sizeOf3
  v3 := Tryd.zeroValue3
  t4 := Tryd.underlying4
  a4 := Tryd.isAgg4
  z4 := Tryd.sizeOf4
  v4 := Tryd.zeroValue4
  t5 := Tryd.underlying5
  a5 := Tryd.isAgg5
  z5 := Tryd.sizeOf5
  v5 := Tryd.zeroValue5
  t9 := Tryd.underlying9
  a9 := Tryd.isAgg9
  z9 := Tryd.sizeOf9
  v9 := Tryd.zeroValue9
  t22 := Tryd.underlying37
  a22 := Tryd.isAgg37
  z22 := Tryd.sizeOf37
  v22 := Tryd.zeroValue37
  t25 := Tryd.underlying148
  a25 := Tryd.isAgg148
  z25 := Tryd.sizeOf148
  v25 := Tryd.zeroValue148
  t39 := Tryd.underlying123
  a39 := Tryd.isAgg123
  z39 := Tryd.sizeOf123
  v39 := Tryd.zeroValue123
  t45 := Tryd.underlying199
  a45 := Tryd.isAgg199
  z45 := Tryd.sizeOf199
  v45 := Tryd.zeroValue199
  t46 := Tryd.underlying200
  a46 := Tryd.isAgg200
  z46 := Tryd.sizeOf200
  v46 := Tryd.zeroValue200
  t50 := Tryd.underlying108
  a50 := Tryd.isAgg108
  z50 := Tryd.sizeOf108
  v50 := Tryd.zeroValue108
  t53 := Tryd.underlying206
  a53 := Tryd.isAgg206
  z53 := Tryd.sizeOf206
  v53 := Tryd.zeroValue206
  t55 := Tryd.underlying157
  a55 := Tryd.isAgg157
  z55 := Tryd.sizeOf157
  v55 := Tryd.zeroValue157
  t66 := Tryd.underlying224
  a66 := Tryd.isAgg224
  z66 := Tryd.sizeOf224
  v66 := Tryd.zeroValue224
  t70 := Tryd.underlying228
  a70 := Tryd.isAgg228
  z70 := Tryd.sizeOf228
  v70 := Tryd.zeroValue228
  t76 := Tryd.underlying238
  a76 := Tryd.isAgg238
  z76 := Tryd.sizeOf238
  v76 := Tryd.zeroValue238
  t77 := Tryd.underlying114
  a77 := Tryd.isAgg114
  z77 := Tryd.sizeOf114
  v77 := Tryd.zeroValue114 }


/-- A bind whose port is small in any case. -/
def Bd.cl (b : Bd) : Bd := { b with near := if 0 ≤ b.near ∧ b.near < 65536 then b.near else 0 }
theorem Bd.cl_range (b : Bd) : 0 ≤ b.cl.near ∧ b.cl.near < 65536 := by
  unfold Bd.cl
  dsimp only
  split
  · assumption
  · omega
theorem Bd.cl_eq {b : Bd} (h : 0 ≤ b.near ∧ b.near < 65536) : b.cl = b := by unfold Bd.cl; rw [if_pos h]
instance : Inhabited Bd := ⟨zeroBd⟩
def encB (b : Bd) : List Value := b.cl.cells.toList
def cmpB (a b : Bd) : Int := a.cl.near - b.cl.near
theorem ltB (x y : Bd) : ltOf cmpB x y = decide (x.cl.near < y.cl.near) := by
  unfold ltOf cmpB
  by_cases h : x.cl.near < y.cl.near
  · rw [decide_eq_true h, decide_eq_true (by omega)]
  · rw [decide_eq_false h, decide_eq_false (by omega)]
theorem swoB : SWO (ltOf cmpB) where
  irrefl x := by rw [ltB]; simp
  trans x y z h1 h2 := by rw [ltB] at *; simp at *; omega
  ntrans x y z h1 h2 := by rw [ltB] at *; simp at *; omega
set_option maxRecDepth 100000 in
set_option maxHeartbeats 2000000 in
theorem near_cmp (x y : Bd) (hx : 0 ≤ x.near ∧ x.near < 65536) (hy : 0 ≤ y.near ∧ y.near < 65536) (W : World) : Calls Tryd.prog 74 #[.agg x.cells, .agg y.cells] W fun e w' => e = .returned (.int .i64 (x.near - y.near)) ∧ ∃ q os', w' = grow (W.drewN q) os' := by
  have K1 := (Blk.new W 53 x.cells).alloc (.cells y.cells 53)
  have K2 := Blk.at (n := W.heap.size + 1) (W.alloc (.cells x.cells 53)) 53 y.cells (by simp)
  have c1 := K1.cells 19
  have c2 := K2.cells 19
  change _ = some (Value.int .i64 x.near) at c1
  change _ = some (Value.int .i64 y.near) at c2
  have wr : IntKind.i64.wrap (x.near - y.near) = x.near - y.near := IntWalk.i64_in _ (by omega)
  clear K1 K2
  go_enter Tryd.func74, Tryd.ntmps74
  go_wp2_with fail
  go_returns
  exact ⟨rfl, 0, _, by rw [alloc_eq_grow, alloc_eq_grow, grow_grow]; rfl⟩
theorem cmpLaysB (blk off size : Nat) (w : World) : CmpLays Tryd.prog 74 #[] encB 23 cmpB blk off size w :=
  fun _ _ _ _ x y => near_cmp x.cl y.cl x.cl_range y.cl_range _
/-- A row's cells, flat. -/
theorem flat_at {xs : List Bd} (hr : ∀ b ∈ xs, 0 ≤ b.near ∧ b.near < 65536) {j : Nat} (hj : j < xs.length * 23) : (KB.cells xs)[j]? = some (flatK encB 23 xs.toArray)[j]! := by
  have hq : j / 23 < xs.length := by omega
  have hm : j % 23 < 23 := Nat.mod_lt _ (by omega)
  have hx := List.getElem?_eq_getElem hq
  have h1 := KB.cells_at xs (j / 23) (j % 23) _ hx hm
  rw [show j / 23 * KB.sz + j % 23 = j by show j / 23 * 23 + j % 23 = j; omega] at h1
  rw [h1, get_flatK _ _ _ _ (by simpa using hj)]
  have hg : xs.toArray[j / 23]! = xs[j / 23] := by rw [getElem!_pos _ _ (by simpa using hq)]; rfl
  rw [hg]
  unfold encB
  rw [Bd.cl_eq (hr _ (List.getElem_mem hq))]
  have hl : (xs[j / 23].cells.toList).length = 23 := rfl
  show (xs[j / 23].cells.toList)[j % 23]? = _
  rw [List.getElem?_eq_getElem (by rw [hl]; exact hm), getElem!_pos _ _ (by rw [hl]; exact hm)]
theorem holdsB {w : World} {g n cap : Nat} {cur : Array Value} {t : TypeId} {xs : List Bd} (hr : ∀ b ∈ xs, 0 ≤ b.near ∧ b.near < 65536) (hn : xs.length = n) (hg : w.heap[g]? = some (.cells cur t (0, 0))) (hc : cur.toList.take (n * 23) = KB.cells xs) (_hs : cur.size = cap * 23) :
    HoldsK encB 23 w g 0 xs.toArray := by
  intro j hj
  rw [size_flatK] at hj
  have hj' : j < n * 23 := by simpa [hn] using hj
  have h1 := flat_at hr (by simpa using hj)
  rw [← hc, List.getElem?_take, if_pos hj', Array.getElem?_toList] at h1
  refine ⟨?_, ?_⟩
  · rw [Nat.zero_add, cell_of_row w g j cur t (0, 0) hg, h1]; rfl
  · rw [Nat.zero_add]; exact frozen_of_row w g j cur t hg
end Go.Proofs.YtefdhlmljocnkaaDoor
/- bind.sorted, whole; bind.All, whole. Conditions: as each lemma states them. -/
namespace Go.Proofs.YtefdhlmljocnkaaDoor
open Go.RowKit Go.Shelf Go.Lib Go.Sort
theorem sortW_heap (w : World) (g m : Nat) (d : Array Bd) (os : Array Obj) (hg : g < w.heap.size) :
    (∀ i, i < w.heap.size → i ≠ g → (sortWorldK encB 23 w g 0 m d os).heap[i]? = w.heap[i]?) ∧ (∀ cur t, w.heap[g]? = some (.cells cur t (0, 0)) → (sortWorldK encB 23 w g 0 m d os).heap[g]? = some (.cells (putCells id 0 (flatK encB 23 d) cur) t (0, 0))) ∧ w.heap.size ≤ (sortWorldK encB 23 w g 0 m d os).heap.size := by
  have hz : (putRowK encB 23 (Sort.ahead w m) g 0 d).heap = w.heap.modify g (onCells (putCells id 0 (flatK encB 23 d))) := rfl
  have hz1 : (putRowK encB 23 (Sort.ahead w m) g 0 d).heap.size = w.heap.size := by rw [hz, Array.size_modify]
  unfold sortWorldK
  refine ⟨fun i hi hne => ?_, fun cur t hc => ?_, ?_⟩
  · rw [heap_grow_old _ _ (by rw [hz1]; exact hi), hz, Array.getElem?_modify, if_neg (fun e => hne e.symm)]
  · rw [heap_grow_old _ _ (by rw [hz1]; exact hg), hz, Array.getElem?_modify, if_pos rfl, hc]
    rfl
  · rw [size_grow, hz1]; omega
theorem sortW_grown (w : World) (g m : Nat) (d : Array Bd) (os : Array Obj) (hg : g < w.heap.size) : w.grownBy (sortWorldK encB 23 w g 0 m d os) (some g) :=
  ⟨rfl, rfl, rfl, (sortW_heap w g m d os hg).2.2, fun i hi hne => (sortW_heap w g m d os hg).1 i hi fun e => hne (by rw [e])⟩
set_option maxRecDepth 100000 in
set_option maxHeartbeats 2000000 in
theorem sorts_to (B : List Bd) (hs : B.Pairwise fun a b => a.near < b.near) (hr : ∀ b ∈ B, 0 ≤ b.near ∧ b.near < 65536) (hB : B.length ≤ 65536) : SortsTo B := by
  intro v xs b w p ho
  have hrx : ∀ c ∈ xs, 0 ≤ c.near ∧ c.near < 65536 := fun c hc => hr c (p.mem_iff.1 hc)
  have hl := p.length_eq
  rcases ho.2 with ⟨rfl, h0⟩ | ⟨g, cap, cur, rfl, hbg, hh, hcap, hmax, hcs, htk⟩
  · obtain rfl : xs = [] := List.length_eq_zero_iff.1 h0
    obtain rfl : B = [] := List.length_eq_zero_iff.1 (by simpa using hl.symm)
    have HO := Lib.hid ho
    clear hl hs hr hB hrx p h0
    go_enter Tryd.func55, Tryd.ntmps55
    go_wp2_with fail
    refine (sort_zero _ w).mono ?_
    rintro e w' ⟨rfl, rfl⟩
    go_wp2_with fail
    go_returns
    exact ⟨rfl, HO.out, World.grownBy.refl _ _⟩
  · have hg : g < w.heap.size := (Array.getElem?_eq_some_iff.1 hh).1
    have eg : ∀ args w, (callFunc 74 args).run Tryd.prog w = .ok (.enter 74 args) w := enters_of Tryd.func74 (by kernel_rfl) rfl
    have hH := holdsB (n := xs.length) hrx rfl hh htk hcs
    have hcon := AnyQ.slices_SortFunc sortBind 23 Tryd.isAgg53 Tryd.sizeOf53 encB (fun _ => rfl) (fun x u hu => (Array.all_eq_true_iff_forall_mem.1 x.cl.one) u (by simpa [encB] using hu)) cmpB swoB 74 #[] g 0 cap xs.toArray w eg (cmpLaysB g 0 xs.toArray.size w) hH hg (by simp; omega)
    change Calls Tryd.prog 73 _ _ _ at hcon
    have HC := Lib.hid hcon
    have HX := Lib.hid (And.intro hrx (And.intro hh (And.intro hcs (And.intro htk hg))))
    have HS := Lib.hid (And.intro hs (And.intro p (And.intro hl hbg)))
    have HM := Lib.hid (And.intro hcap hmax)
    obtain ⟨n, hn⟩ : ∃ n, xs.length = n := ⟨_, rfl⟩
    have HN := Lib.hid hn
    clear hcon hs hr hB hrx p hh hcs htk hH ho hl hcap hmax
    rw [hn]
    go_enter Tryd.func55, Tryd.ntmps55
    go_wp2_with fail
    have hq := HC.out
    rw [show xs.toArray.size = n from HN.out] at hq
    refine hq.mono ?_
    rintro e w' ⟨rfl, d', m, os, hp, hso, rfl⟩
    clear hq
    have HD := Lib.hid (And.intro hp hso)
    have HW := Lib.hid (And.intro (sortW_grown w g m d' os HX.out.2.2.2.2) ((sortW_heap w g m d' os HX.out.2.2.2.2).2.1 cur _ HX.out.2.1))
    clear hp hso
    generalize sortWorldK encB 23 w g 0 m d' os = W at *
    go_wp2_with fail
    go_returns
    obtain ⟨⟨hsz, _, hperm⟩, hsrt⟩ := HD.out
    have hsz' : d'.size = n := hsz.trans HN.out
    have hperm' : d'.toList.Perm xs := by
      have e1 : d'.extract 0 n = d' := by rw [← hsz']; simp
      have e2 : xs.toArray.extract 0 n = xs.toArray := by rw [← HN.out]; simp
      rw [e1, e2] at hperm
      exact hperm
    have hmem : ∀ c ∈ d'.toList, 0 ≤ c.near ∧ c.near < 65536 := fun c hc => HX.out.1 c (hperm'.mem_iff.1 hc)
    have hnd : (d'.toList.map (·.near)).Nodup := by
      refine ((hperm'.trans HS.out.2.1).map (·.near)).symm.nodup ?_
      unfold List.Nodup
      rw [List.pairwise_map]
      exact HS.out.1.imp fun hlt he => by omega
    have hsd : d'.toList.Pairwise fun a b => a.near < b.near := by
      rw [List.pairwise_iff_getElem]
      intro i j hi hj hij
      have hi' : i < d'.size := by simpa using hi
      have hj' : j < d'.size := by simpa using hj
      have h1 := hsrt i j (Nat.zero_le _) hij (by rw [← hsz']; exact hj')
      rw [ltB, getElem!_pos d' i hi', getElem!_pos d' j hj'] at h1
      rw [Bd.cl_eq (hmem _ (by simp)), Bd.cl_eq (hmem _ (by simp))] at h1
      simp only [decide_eq_false_iff_not, Int.not_lt] at h1
      have h2 : d'[i].near ≠ d'[j].near := fun he => by
        have := (List.getElem?_inj (i := i) (j := j) (by simp only [List.length_map]; exact hi) hnd).1 (by simp [hi', hj', he])
        omega
      simp only [Array.getElem_toList]
      omega
    have hB : d'.toList = B := sorted_eq (hperm'.trans HS.out.2.1) hsd HS.out.1
    refine ⟨rfl, ?_, HW.out.1⟩
    have hBl : B.length = n := by rw [← hB]; simpa using hsz'
    refine ⟨by rw [KB.cells_length], .inr ⟨g, cap, putCells id 0 (flatK encB 23 d') cur, by rw [hBl], HS.out.2.2.2, HW.out.2, by rw [hBl]; exact HN.out ▸ HM.out.1, HM.out.2, ?_, ?_⟩⟩
    · unfold putCells
      rw [Array.size_mapIdx]
      exact HX.out.2.2.1
    · rw [hBl]
      refine List.ext_getElem? fun j => ?_
      have hcz := HX.out.2.2.1
      have hcp : n ≤ cap := HN.out ▸ HM.out.1
      have hnc : n * 23 ≤ cap * 23 := Nat.mul_le_mul_right 23 hcp
      by_cases hj : j < n * 23
      · have h1 := flat_at hmem (j := j) (by rw [Array.length_toList, hsz']; exact hj)
        rw [← hB, h1]
        rw [show KB.sz = 23 from rfl, List.getElem?_take, if_pos hj, Array.getElem?_toList]
        unfold putCells
        rw [Array.getElem?_mapIdx, Array.getElem?_eq_getElem (by have : cur.size = cap * 23 := hcz; omega)]
        simp only [Option.map_some, Nat.zero_le, true_and, Nat.zero_add, Nat.sub_zero, size_flatK, hsz', if_pos hj, id]
      · rw [List.getElem?_eq_none (by rw [List.length_take]; show min (n * 23) _ ≤ j; omega), List.getElem?_eq_none (by rw [KB.cells_length, hBl]; show n * 23 ≤ j; omega)]
/-- All, whole. -/
theorem Inv.range {s : PS} {B : List Bd} (h : Inv0 s B) (hn : s.n ≤ 16) : (∀ b ∈ B, 0 ≤ b.near ∧ b.near < 65536) ∧ B.length ≤ 128 := by
  refine ⟨fun b hb => ?_, ?_⟩
  · obtain ⟨i, h1, h2, _⟩ := h.near hb
    omega
  · have h1 := h.pa.many
    have h2 : s.used s.n ≤ 8 * s.n := Pl.cnt_le _ _ _
    rw [List.length_map] at h1
    omega
theorem all_any (G : TG) (s : PS) (B : List Bd) (w : World) (h : TB w G s B) :
    Calls Tryd.prog 29 #[.pointer (some ⟨G.gT, 0, none⟩)] w fun e w' => ∃ v, e = .returned v ∧ KB.Own 53 w' w.heap.size v B ∧ Ext w w' := by
  obtain ⟨l, cF, cN, ht, p, hnd⟩ := h.ex
  obtain ⟨h1, h2⟩ := Inv.range h.inv.toInv0 ht.prt.n1
  exact tall_any _ _ _ _ _ s l cF cN B w ht p hnd (by omega) (sorts_to B h.inv.sorted h1 (by omega))
end Go.Proofs.YtefdhlmljocnkaaDoor
/- bind.Make, whole. Conditions: as each lemma states them. -/
namespace Go.Proofs.YtefdhlmljocnkaaDoor
open Go.RowKit
theorem take_same {s : PS} {who : Six} (h : s.takeQ who ≠ 0) : s.take who = s := by unfold PS.take; rw [if_neg h]
/-- Make, whole. -/
theorem make_any (G : TG) (s : PS) (B : List Bd) (f : Flow) (back far now : Int) (w : World) (h : TB w G s B) :
    Calls Tryd.prog 18 #[.pointer (some ⟨G.gT, 0, none⟩), f.v, .int .i64 back, .int .i64 far, .int .i64 now] w fun e w' =>
      e = .returned (.tuple #[(if bMakeQ f back far now s B = 0 then newBd f back far now s else zeroBd).v, erv (bMakeQ f back far now s B)]) ∧ TB w' G (if bMakeQ f back far now s B = 0 then s.take f.client else s) (if bMakeQ f back far now s B = 0 then insB (newBd f back far now s) B else B) ∧ Kp G.mut w w' := by
  obtain ⟨l, cF, cN, ht, p, hnd⟩ := h.ex
  obtain ⟨h1, h2⟩ := flow_look h.inv.toInv0 p f
  have bad : ∀ q : Int, q ≠ 0 → bMakeQ f back far now s B = q → (∃ X : Prop, X → True) → Calls Tryd.prog 18 #[.pointer (some ⟨G.gT, 0, none⟩), f.v, .int .i64 back, .int .i64 far, .int .i64 now] w (fun e w' => e = .returned (.tuple #[zeroBd.v, errv q]) ∧ Ext w w') →
      Calls Tryd.prog 18 #[.pointer (some ⟨G.gT, 0, none⟩), f.v, .int .i64 back, .int .i64 far, .int .i64 now] w fun e w' =>
      e = .returned (.tuple #[(if bMakeQ f back far now s B = 0 then newBd f back far now s else zeroBd).v, erv (bMakeQ f back far now s B)]) ∧ TB w' G (if bMakeQ f back far now s B = 0 then s.take f.client else s) (if bMakeQ f back far now s B = 0 then insB (newBd f back far now s) B else B) ∧ Kp G.mut w w' := by
    intro q hq e _ hc
    rw [e, if_neg hq, if_neg hq, if_neg hq]
    refine hc.mono ?_
    rintro e w' ⟨rfl, E⟩
    exact ⟨by unfold erv; rw [if_neg hq], h.ext E, E.kp _⟩
  by_cases ho : okF f = true
  · have hf := okF_iff.1 ho
    by_cases ha : okA back = true
    · have hb := okA_iff.1 ha
      by_cases hw : w16 far = true
      · have hw' := w16_iff.1 hw
        by_cases hn : okT now = true
        · cases hff : findF f B with
          | some b =>
            obtain ⟨i, x, hx, hxb, hl⟩ := h1 b hff
            exact bad 8 (by decide) (by unfold bMakeQ; rw [if_pos ho, if_pos (by simp [ha, hw, hn]), hff]; rfl) ⟨True, id⟩ (tmake_clash _ _ _ _ _ s l cF cN f back far now w ht hf hb hw' hn i b.near hl)
          | none =>
            have e : bMakeQ f back far now s B = s.takeQ f.client := by unfold bMakeQ; rw [if_pos ho, if_pos (by simp [ha, hw, hn]), hff]; rfl
            rw [e]
            by_cases hq : s.takeQ f.client = 0
            · obtain ⟨hi, hno⟩ := h.inv.make hf hb hw' (okT_iff.1 hn) hff hq
              rw [if_pos hq, if_pos hq, if_pos hq]
              refine (tmake_ok _ _ _ _ _ s l cF cN f back far now w ht hf hb hw' hn (h2 hff) ((near_look h.inv.toInv0 p _).2 hno) hq).mono ?_
              rintro e w' ⟨rfl, k, t⟩
              refine ⟨by rw [hq]; rfl, ⟨⟨_, _, _, t, ?_, ?_⟩, hi⟩, k⟩
              · rw [List.map_append]
                exact ((p.append_right _).trans (List.perm_append_singleton _ _)).trans (insB_perm _ _).symm
              · rw [List.map_append, List.nodup_append]
                refine ⟨hnd, by simp, fun a ha b hb he => ?_⟩
                obtain ⟨x, hx, rfl⟩ := List.mem_map.1 ha
                have := ht.nears.old x.inN (List.mem_map_of_mem hx)
                have hx2 : x.sN < cN := this
                simp at hb
                omega
            · rw [if_neg hq, if_neg hq, if_neg hq]
              refine (tmake_full _ _ _ _ _ s l cF cN f back far now w ht hf hb hw' hn (h2 hff) hq).mono ?_
              rintro e w' ⟨rfl, k, q⟩
              rw [take_same hq] at q
              have ha := ht.apart
              refine ⟨by unfold erv; rw [if_neg hq], ⟨⟨l, cF, cN, ⟨ht.ptr.kp k (by simp at ha ⊢; omega), q, ht.flows.kp k (by simp at ha ⊢; omega), ht.nears.kp k (by simp at ha ⊢; omega), ha⟩, p, hnd⟩, h.inv⟩, k.mono (by simp [TG.mut])⟩
        · exact bad 1 (by decide) (by unfold bMakeQ; rw [if_pos ho, if_neg (by simp [hn])]) ⟨True, id⟩ (tmake_now _ _ _ _ _ s l cF cN f back far now w ht hf hb hw' (by simpa [okT] using hn))
      · exact bad 1 (by decide) (by unfold bMakeQ; rw [if_pos ho, if_neg (by simp [hw])]) ⟨True, id⟩ (tmake_far _ _ _ _ _ s l cF cN f back far now w ht hf hb fun h => hw (w16_iff.2 h))
    · exact bad 1 (by decide) (by unfold bMakeQ; rw [if_pos ho, if_neg (by simp [ha])]) ⟨True, id⟩ (tmake_back _ _ _ _ _ s l cF cN f back far now w ht hf fun h => ha (okA_iff.2 h))
  · exact bad 1 (by decide) (by unfold bMakeQ; rw [if_neg ho]) ⟨True, id⟩ (tmake_bad _ _ _ _ _ s l cF cN f back far now w ht fun h => ho (okF_iff.2 h))
end Go.Proofs.YtefdhlmljocnkaaDoor
/- bind.Expire up to its sorting. Conditions: as each lemma states them. -/
namespace Go.Proofs.YtefdhlmljocnkaaDoor
open Go.RowKit
/-- A bind that has expired, of entries. -/
def pastT (now : Int) (x : Te) : Bool := past now x.b
/-- Binds that are gone, of those that have come. -/
def goneT (now : Int) (d : List Te) : List Bd := (d.filter (pastT now)).map Te.b
/-- In the midst of Expire: of entries l0 d have come; l are left; s the ports. -/
structure Exp (now : Int) (s0 : PS) (l0 : List Te) (d l : List Te) (s : PS) : Prop where
  vis : Vis l0 d
  left : ∀ x ∈ l, x ∈ l0 ∧ (x.sN ∈ d.map Te.sN → pastT now x = false)
  all : ∀ x ∈ l0, x ∈ l ∨ (x ∈ d ∧ pastT now x = true)
  apart : ∀ x ∈ l, ¬ (x ∈ d ∧ pastT now x = true)
  nd : (l.map Te.sN).Nodup
  nd0 : (l0.map Te.sN).Nodup
  inv : Inv0 s (l.map Te.b)
  ports : s = s0.backs (goneT now d)
theorem Exp.start {now : Int} {s : PS} {l : List Te} (hnd : (l.map Te.sN).Nodup) (h : Inv0 s (l.map Te.b)) : Exp now s l [] l s :=
  ⟨⟨fun _ h => (by cases h), List.nodup_nil⟩, fun x hx => ⟨hx, fun h => (by cases h)⟩, fun x hx => .inl hx, fun x _ h => (by cases h.1), hnd, hnd, h, (PS.backs_nil s).symm⟩
/-- An entry that stays. -/
theorem Exp.stay {now : Int} {s0 s : PS} {l0 d l : List Te} (h : Exp now s0 l0 d l s) {x : Te} (hx : x ∈ l) (hn : x.sN ∉ d.map Te.sN) (hp : pastT now x = false) : Exp now s0 l0 (d ++ [x]) l s := by
  have hx0 := (h.left x hx).1
  refine ⟨h.vis.add hx0 hn, fun y hy => ⟨(h.left y hy).1, fun hm => ?_⟩, fun y hy => ?_, fun y hy hc => ?_, h.nd, h.nd0, h.inv, ?_⟩
  · rw [List.map_append] at hm
    rcases List.mem_append.1 hm with hm | hm
    · exact (h.left y hy).2 hm
    · simp at hm
      rw [stamp_inj h.nd0 (h.left y hy).1 hx0 hm]
      exact hp
  · rcases h.all y hy with hl | ⟨h1, h2⟩
    · exact .inl hl
    · exact .inr ⟨List.mem_append_left _ h1, h2⟩
  · rcases List.mem_append.1 hc.1 with h1 | h1
    · exact h.apart y hy ⟨h1, hc.2⟩
    · simp at h1
      rw [h1, hp] at hc
      exact absurd hc.2 (by decide)
  · rw [h.ports]
    unfold goneT
    rw [List.filter_append, List.filter_cons_of_neg (by rw [hp]; decide)]
    simp
/-- An entry that goes. -/
theorem Exp.go {now : Int} {s0 s : PS} {l0 d l : List Te} (h : Exp now s0 l0 d l s) {i : Nat} {x : Te} (hi : l[i]? = some x) (hn : x.sN ∉ d.map Te.sN) (hp : pastT now x = true) :
    Exp now s0 l0 (d ++ [x]) (l.eraseIdx i) (s.back x.b.near) ∧ s.has x.b.near = true ∧ goneT now (d ++ [x]) = goneT now d ++ [x.b] := by
  have hx : x ∈ l := List.mem_of_getElem? hi
  have hx0 := (h.left x hx).1
  have hlt := (List.getElem?_eq_some_iff.1 hi).1
  have hsub : (l.eraseIdx i).Sublist l := List.eraseIdx_sublist ..
  have hnx : x ∉ l.eraseIdx i := fun hm => by
    have hnd := nodup_of_map h.nd
    rw [List.eraseIdx_eq_take_drop_succ] at hm
    have e : l = l.take i ++ x :: l.drop (i + 1) := by
      rw [← (List.getElem?_eq_some_iff.1 hi).2, List.getElem_cons_drop, List.take_append_drop]
    rw [e, List.nodup_append] at hnd
    rcases List.mem_append.1 hm with h1 | h1
    · exact hnd.2.2 x h1 x (List.mem_cons_self ..) rfl
    · exact (List.nodup_cons.1 hnd.2.1).1 h1
  have hsplit : l = l.take i ++ x :: l.drop (i + 1) := by
    rw [← (List.getElem?_eq_some_iff.1 hi).2, List.getElem_cons_drop, List.take_append_drop]
  have hg : goneT now (d ++ [x]) = goneT now d ++ [x.b] := by
    unfold goneT
    rw [List.filter_append, List.filter_cons_of_pos hp]
    simp
  have hhas : s.has x.b.near = true := h.inv.has (List.mem_map_of_mem hx)
  refine ⟨⟨h.vis.add hx0 hn, fun y hy => ⟨(h.left y (hsub.subset hy)).1, fun hm => ?_⟩, fun y hy => ?_, fun y hy hc => ?_, h.nd.sublist (hsub.map _), h.nd0, ?_, ?_⟩, hhas, hg⟩
  · rw [List.map_append] at hm
    rcases List.mem_append.1 hm with hm | hm
    · exact (h.left y (hsub.subset hy)).2 hm
    · simp at hm
      rw [stamp_inj h.nd0 (h.left y (hsub.subset hy)).1 hx0 hm] at hy
      exact absurd hy hnx
  · rcases h.all y hy with hl | ⟨h1, h2⟩
    · by_cases he : y = x
      · subst he
        exact .inr ⟨by simp, hp⟩
      · left
        rw [List.eraseIdx_eq_take_drop_succ]
        rw [hsplit] at hl
        rcases List.mem_append.1 hl with h1 | h1
        · exact List.mem_append_left _ h1
        · rcases List.mem_cons.1 h1 with h1 | h1
          · exact absurd h1 he
          · exact List.mem_append_right _ h1
    · exact .inr ⟨List.mem_append_left _ h1, h2⟩
  · rcases List.mem_append.1 hc.1 with h1 | h1
    · exact h.apart y (hsub.subset hy) ⟨h1, hc.2⟩
    · simp at h1
      rw [h1] at hy
      exact absurd hy hnx
  · have h1 := h.inv
    rw [hsplit, List.map_append, List.map_cons] at h1
    have h2 := h1.drop
    rw [List.eraseIdx_eq_take_drop_succ, List.map_append]
    exact h2
  · rw [hg, h.ports]
    rw [h.ports] at hhas
    exact PS.backs_add s0 _ _ hhas
/-- At the end. -/
theorem Exp.done {now : Int} {s0 s : PS} {l0 d l : List Te} (h : Exp now s0 l0 d l s) (ha : ∀ x ∈ l, x.sN ∈ d.map Te.sN) {B : List Bd} (hB : (l0.map Te.b).Perm B) (hi : Inv s0 B) :
    (goneT now d).Perm (outB now B) ∧ (l.map Te.b).Perm (restB now B) ∧ s = s0.backs (outB now B) ∧ Inv s (restB now B) := by
  have hd : ∀ x ∈ l, pastT now x = false := fun x hx => (h.left x hx).2 (ha x hx)
  have p1 : l.Perm (l0.filter fun x => !pastT now x) := by
    rw [List.perm_ext_iff_of_nodup (nodup_of_map h.nd) ((nodup_of_map h.nd0).sublist List.filter_sublist)]
    intro x
    rw [List.mem_filter]
    constructor
    · intro hx
      exact ⟨(h.left x hx).1, by rw [hd x hx]; rfl⟩
    · rintro ⟨hx, hp⟩
      rcases h.all x hx with hl | ⟨_, h2⟩
      · exact hl
      · rw [h2] at hp; cases hp
  have p2 : (d.filter (pastT now)).Perm (l0.filter (pastT now)) := by
    rw [List.perm_ext_iff_of_nodup ((nodup_of_map h.vis.nd).sublist List.filter_sublist) ((nodup_of_map h.nd0).sublist List.filter_sublist)]
    intro x
    rw [List.mem_filter, List.mem_filter]
    constructor
    · rintro ⟨hx, hp⟩
      exact ⟨h.vis.sub x hx, hp⟩
    · rintro ⟨hx, hp⟩
      rcases h.all x hx with hl | ⟨h1, _⟩
      · rw [hd x hl] at hp; cases hp
      · exact ⟨h1, hp⟩
  have e1 : ∀ q : Bd → Bool, (l0.filter fun x => q x.b).map Te.b = (l0.map Te.b).filter q := fun q => by
    rw [List.filter_map]; rfl
  have q1 : (l.map Te.b).Perm (restB now B) := by
    have := p1.map Te.b
    have e2 : (l0.filter fun x => !pastT now x).map Te.b = (l0.map Te.b).filter (fun b => !past now b) := e1 (fun b => !past now b)
    rw [e2] at this
    exact this.trans (hB.filter _)
  have q2 : (goneT now d).Perm (outB now B) := by
    have := p2.map Te.b
    have e2 : (l0.filter (pastT now)).map Te.b = (l0.map Te.b).filter (past now) := e1 (past now)
    rw [e2] at this
    exact this.trans (hB.filter _)
  refine ⟨q2, q1, by rw [h.ports]; exact PS.backs_perm s0 q2, h.inv.perm q1, ?_⟩
  exact hi.sorted.sublist List.filter_sublist
end Go.Proofs.YtefdhlmljocnkaaDoor
/- bind.Expire. Conditions: as each lemma states them. -/
namespace Go.Proofs.YtefdhlmljocnkaaDoor
open Go.RowKit
section
variable {κ : Type} {K : Keys κ} {w : World} {g : Nat} {l : List (Ent κ)} {clock : Nat}
variable {ops : Array Oper} {rest : List Oper} {o : Oper} {a : Act} {Q : Exit → Act → World → Prop}
/-- delete in a walk, of a key that is there. -/
theorem at_delmap (hg : o.guard = none) (m x : Operand) (t e : TypeId) (hop : o.op = Op.call { callee := Callee.builtin Builtin.delete, args := #[m, x], argTypes := #[t, K.t] }) (h : MapIs K w g l clock) (hF : K.Finds)
    (hm : a.eval m = .map (some g)) (hu : Tryd.prog.underlying t = some (.map K.t e)) (k : κ) (u : Value) (i : Nat) (hk : K.look k l 0 = some (i, u)) (hx : a.eval x = K.f k)
    (hK : wpList Tryd.prog ops Q rest (a.put o.dst (.tuple #[])) (putMap K w g (l.eraseIdx i) clock)) : wpList Tryd.prog ops Q (o :: rest) a w := by
  refine wpList_plain hg fun K' hK' => ?_
  have hrun := h.delete hF t e o.type hu k u i hk
  unfold Oper.wp
  simp [execOp, hop, resolve, invoke, builtin, hm, hx, hrun, Result.andThen]
  exact hK' _ _ hK
end
theorem erase_inN (l : List Te) (i : Nat) : (l.map Te.inN).eraseIdx i = (l.eraseIdx i).map Te.inN := by rw [← ChangeMaps.map_eraseIdx]
theorem erase_inF (l : List Te) (i : Nat) : (l.map Te.inF).eraseIdx i = (l.eraseIdx i).map Te.inF := by rw [← ChangeMaps.map_eraseIdx]
theorem Kp.grown {S : List Nat} {a b c : World} {row : Option Nat} (h : Kp S a b) (k : b.grownBy c row) (hr : ∀ g, row = some g → a.heap.size ≤ g) : Kp S a c :=
  ⟨k.os.trans h.os, k.tape.trans h.tape, k.output.trans h.output, Nat.le_trans h.size k.size, fun i hi hn => (k.block i (Nat.lt_of_lt_of_le hi h.size) (fun e => by have := hr i e.symm; omega)).trans (h.block i hi hn)⟩
theorem Kp.ofRow {b c : World} {row : Option Nat} (k : b.grownBy c row) : Kp row.toList b c := ⟨k.os, k.tape, k.output, k.size, fun i hi hn => k.block i hi fun e => hn (by rw [← e]; simp)⟩
theorem Tab.kp {w w' : World} {gT gP gB gF gN : Nat} {s : PS} {l : List Te} {cF cN : Nat} {S : List Nat} (h : Tab w gT gP gB gF gN s l cF cN) (k : Kp S w w') (h1 : gT ∉ S) (h2 : gP ∉ S) (h3 : gB ∉ S) (h4 : gF ∉ S) (h5 : gN ∉ S) : Tab w' gT gP gB gF gN s l cF cN :=
  ⟨h.ptr.kp k h1, h.prt.kp k h2 h3, h.flows.kp k h4, h.nears.kp k h5, h.apart⟩
theorem Kin.Own.kp {α : Type} {K : Kin α} {t : TypeId} {w w' : World} {B : Nat} {v : Value} {xs : List α} {S : List Nat} (h : K.Own t w B v xs) (k : Kp S w w') (hS : ∀ g, v.ownBlock = some g → g ∉ S) : K.Own t w' B v xs := by
  have hL := h.lt
  refine ⟨h.1, ?_⟩
  rcases h.2 with hn | ⟨g, cap, cur, rfl, hg, hh, rest⟩
  · exact .inl hn
  · exact .inr ⟨g, cap, cur, rfl, hg, by rw [k.block g (hL g rfl).2 (hS g rfl)]; exact hh, rest⟩
theorem loaBdF {w : World} {R : Nat} {b : Bd} (k : Blk w R 53 b.cells) :
    (Instr.loadAt 47 (.pointer (some ⟨R, 0, none⟩))).run Tryd.prog w = .ok (.agg b.flow.cells) w := by
  have e : b.cells = b.flow.cells ++ #[.int .i64 b.near, .int .i64 b.back, .int .i64 b.far, .int .i64 b.last] := rfl
  have := run_loadAt_mid (P := Tryd.prog) w R 0 47 b.flow.cells.toList _ (fun j v hv => by
    rw [Array.getElem?_toList] at hv
    rw [k.cells, Nat.zero_add, e, Array.getElem?_append_left (Array.getElem?_eq_some_iff.1 hv).1]; exact hv) Tryd.underlying47 rfl Tryd.sizeFlow
  simpa using this
set_option maxRecDepth 100000 in
set_option maxHeartbeats 2000000 in
theorem texp_bad (gT : Nat) (now : Int) (w : World) (hn : okT now = false) :
    Calls Tryd.prog 23 #[.pointer (some ⟨gT, 0, none⟩), .int .i64 now] w fun e w' => e = .returned (.tuple #[.slice none 0 0, errv 1]) ∧ w' = w := by
  unfold okT at hn
  unfold errv
  go_enter Tryd.func23, Tryd.ntmps23
  go_wp2_with fail
  refine (btick_any now _).mono ?_
  rintro e w' ⟨rfl, rfl⟩
  rw [hn]
  go_wp2_with fail
  go_returns
  exact ⟨rfl, rfl⟩
set_option maxRecDepth 100000 in
set_option maxHeartbeats 2000000 in
theorem texp_any (gT gP gB gF gN : Nat) (s : PS) (l : List Te) (cF cN : Nat) (B : List Bd) (now : Int) (w : World) (h : Tab w gT gP gB gF gN s l cF cN) (p : (l.map Te.b).Perm B) (hnd : (l.map Te.sN).Nodup) (hi : Inv s B) (hn : okT now = true) :
    Calls Tryd.prog 23 #[.pointer (some ⟨gT, 0, none⟩), .int .i64 now] w fun e w' => ∃ v l', e = .returned (.tuple #[v, .nilIface]) ∧ KB.Own 53 w' w.heap.size v (outB now B) ∧
      Tab w' gT gP gB gF gN (s.backs (outB now B)) l' cF cN ∧ (l'.map Te.b).Perm (restB now B) ∧ (l'.map Te.sN).Nodup ∧ Inv (s.backs (outB now B)) (restB now B) ∧ Kp [gB, gF, gN] w w' := by
  have c2 : w.cell? ⟨gT, 2, none⟩ = some (.map (some gN)) := h.ptr.cells 2
  have HM := Lib.hid h
  have hNl := h.nears.lt
  have hFl := h.flows.lt
  have hTl := h.ptr.lt
  have hPl := h.prt.ptr.lt
  have hBl := h.prt.row.lt
  obtain ⟨hr1, hr2⟩ := Inv.range hi.toInv0 h.prt.n1
  have hll : l.length ≤ 128 := by have := p.length_eq; simp at this; omega
  have hS : SortsTo (outB now B) := sorts_to _ (hi.sorted.sublist List.filter_sublist) (fun b hb => hr1 b (List.mem_filter.1 hb).1) (by have := List.length_filter_le (past now) B; unfold outB; omega)
  have HE0 := Lib.hid (Exp.start (now := now) hnd (hi.toInv0.perm p.symm))
  have HP := Lib.hid (And.intro p (And.intro hi hS))
  have ht := okT_iff.1 hn
  have hN := hn
  unfold okT at hN
  have hap := h.apart
  have hTB : gT ≠ gB ∧ gT ≠ gF ∧ gT ≠ gN ∧ gP ≠ gB ∧ gP ≠ gF ∧ gP ≠ gN ∧ gB ≠ gF ∧ gB ≠ gN ∧ gF ≠ gN := by simp at hap; omega
  clear h p hnd hi hS hr1 hr2 hn
  go_enter Tryd.func23, Tryd.ntmps23
  go_wp2_with fail
  refine (btick_any now _).mono ?_
  rintro e w' ⟨rfl, rfl⟩
  rw [hN]
  go_wp2_with (first | (at_range; refine at_map rfl _ 103 53 rfl HM.out.nears rfl Tryd.underlying103 ?_; intro W0 hI0 E0 hs0))
  go_frame
  go_loopw [6] (fun v wr => ∃ (d l1 : List Te) (s1 : PS), Exp now s l d l1 s1 ∧ It wr w'.heap.size gN cN (d.map Te.sN) ∧ KB.Own 53 wr (w'.heap.size + 1) v (goneT now d) ∧ Tab wr gT gP gB gF gN s1 l1 cF cN ∧ Kp [gB, gF, gN] w' wr ∧ w'.heap.size + 1 ≤ wr.heap.size) (fun _ wr => l.length - itSeen wr w'.heap.size)
  case atStart => 
    have kk := E0.kp [gB, gF, gN]
    have t0 := HM.out
    exact ⟨[], l, s, HE0.out, hI0, Kin.Own.nil _ _, ⟨t0.ptr.ext E0, t0.prt.ext E0, t0.flows.ext E0, t0.nears.ext E0, t0.apart⟩, kk, by omega⟩
  case round =>
    clear hI0 E0 hs0 c2
    obtain ⟨d, l1, s1, hX, hI, ho, hT, hK, hs⟩ := hrel
    have hcount := hI.count
    have HV := Lib.hid (And.intro hX (And.intro ho (And.intro hT hK)))
    have MN := hT.nears
    have hl := hX.vis.len
    have hC : l.length - itSeen wr w'.heap.size = l.length - d.length := by rw [hcount]; simp
    have hold : ∀ y ∈ l1, y.sN < cN := fun y hy => MN.old y.inN (List.mem_map_of_mem hy)
    have hnd1 := hX.nd
    clear hX ho hT hK
    go_upto_region 8 with (first | ((apply store_by rfl _ _ _ rfl _ rfl); (focus (with_reducible assumption)); (focus rfl)) | (at_next; refine at_nextT rfl _ rfl rfl MN hI (by omega) hold (Nat.le_refl _) hnd1 (fun hall => ?_) (fun y w1 hy hns hI1 hk1 hen => ?_); rotate_left; have K8 := Blk.new w1 53 #[.int .i64 0, .int .i64 0, .int .i64 0, .int .i64 0, .int .i64 0, .int .i64 0, .int .i64 0, .int .i64 0, .int .i64 0, .int .i64 0, .int .i64 0, .int .i64 0, .int .i64 0, .int .i64 0, .int .i64 0, .int .i64 0, .int .i64 0, .int .i64 0, .int .i64 0, .int .i64 0, .int .i64 0, .int .i64 0, .int .i64 0]; have st := stoBd K8 y.b; rotate_right))
    · obtain ⟨q1, q2, q3, q4⟩ := HV.out.1.done hall HP.out.1 HP.out.2.1
      have ho := HV.out.2.1
      have hT := HV.out.2.2.1
      have hnd2 := hnd1
      have hK := HV.out.2.2.2
      rw [q3] at hT q4
      refine (HP.out.2.2 u6 (goneT now d) (w'.heap.size + 1) wr q1 ho).mono ?_
      rintro e W9 ⟨rfl, o9, g9⟩
      have hlo : ∀ k, u6.ownBlock = some k → w'.heap.size + 1 ≤ k := fun k hk => (ho.lt k hk).1
      have hnl : ∀ g, g < w'.heap.size → g ∉ u6.ownBlock.toList := fun g hg hm => by
        have := hlo g (by simpa using hm); omega
      have t9 := hT.kp (Kp.ofRow g9) (hnl _ hTl) (hnl _ hPl) (hnl _ hBl) (hnl _ hFl) (hnl _ hNl)
      have k9 := hK.grown g9 (fun g hg => by have := hlo g hg; omega)
      have HF := Lib.hid (And.intro o9 (And.intro t9 (And.intro k9 (And.intro q2 (And.intro hnd2 q4)))))
      clear hall ho hT hK g9 hI MN hcount hC o9 t9 k9 q1 q2 q3 q4 hnl hlo hold hnd1 hnd2 hl
      go_wp2_with fail
      go_returns
      exact ⟨_, _, rfl, HF.out.1.mono (Nat.le_succ _), HF.out.2.1, HF.out.2.2.2.1, HF.out.2.2.2.2.1, HF.out.2.2.2.2.2, HF.out.2.2.1⟩
    · have K9 := K8.row y.b.cells
      have E2 : Ext w1 _ := ((Ext.refl w1).alloc (.cells #[.int .i64 0, .int .i64 0, .int .i64 0, .int .i64 0, .int .i64 0, .int .i64 0, .int .i64 0, .int .i64 0, .int .i64 0, .int .i64 0, .int .i64 0, .int .i64 0, .int .i64 0, .int .i64 0, .int .i64 0, .int .i64 0, .int .i64 0, .int .i64 0, .int .i64 0, .int .i64 0, .int .i64 0, .int .i64 0, .int .i64 0] 53)).row (k := w1.heap.size) (Nat.le_refl _) y.b.cells
      refine at_worldE (fun W => Ext w1 W ∧ Blk W w1.heap.size 53 y.b.cells) ⟨E2, K9⟩ ?_
      clear K8 K9 st E2 hen
      rintro W2 ⟨E2, K2⟩
      obtain ⟨hX, ho, hT, hK⟩ := HV.out
      have hs1 := hk1.size
      have hs2 := E2.size
      have hlo : ∀ k, u6.ownBlock = some k → w'.heap.size + 1 ≤ k := fun k hk => (ho.lt k hk).1
      have o2 := (ho.rowed hk1.grown1 (fun k hk he => by have := hlo k hk; cases he; omega)).ext E2
      have i2 := hI1.ext E2
      have t2 := (hT.kp hk1 (by simp; omega) (by simp; omega) (by simp; omega) (by simp; omega) (by simp; omega)).kp (E2.kp []) (by simp) (by simp) (by simp) (by simp) (by simp)
      have k2 : Kp [gB, gF, gN] w' W2 := (hK.grown hk1.grown1 (fun g hg => by cases hg; omega)).andExt E2
      have hok := hX.inv.ok y.b (List.mem_map_of_mem hy)
      have hlast := hok.2.2.2
      have hIs : IsInt y.b.near := by
        obtain ⟨j, hj, hj2, _⟩ := hX.inv.near (List.mem_map_of_mem hy)
        have := t2.prt.n1
        unfold IsInt
        omega
      have c0 := K2.cells 0
      have cl := K2.cells 22
      change _ = some (Value.int .i64 y.b.flow.kind) at c0
      change _ = some (Value.int .i64 y.b.last) at cl
      have wl : IntKind.i64.wrap (now - y.b.last) = now - y.b.last := IntWalk.i64_in _ (by omega)
      have cT2 : W2.cell? ⟨gT, 2, none⟩ = some (.map (some gN)) := t2.ptr.cells 2
      have HX := Lib.hid hX
      have HO := Lib.hid (And.intro o2 (And.intro i2 (And.intro t2 (And.intro k2 K2))))
      clear hX ho hT hK o2 i2 t2 k2 hI1 hk1 hI MN HV hold hnd1 E2 hok hlast K2 hcount
      have hpe : past now y.b = !decide (now - y.b.last < life y.b.flow.kind) := rfl
      by_cases hk : y.b.flow.kind = 6
      case' pos =>
        have b1 : decide (y.b.flow.kind = 6) = true := decide_eq_true hk
        have b2 : (y.b.flow.kind == 6) = true := by rw [hk]; rfl
        have hp' : ∀ q, past now y.b = q → decide (now - y.b.last < 100) = !q := fun q hq => by rw [← hq, hpe, show life y.b.flow.kind = 100 from if_pos hk, Bool.not_not]
      case' neg =>
        have b1 : decide (y.b.flow.kind = 6) = false := decide_eq_false hk
        have b2 : (y.b.flow.kind == 6) = false := by simpa using hk
        have hp' : ∀ q, past now y.b = q → decide (now - y.b.last < 30) = !q := fun q hq => by rw [← hq, hpe, show life y.b.flow.kind = 30 from if_neg hk, Bool.not_not]
      all_goals
        clear hk hpe
        go_upto_region 10 with (fail)
        clear b1 b2 c0
        cases hp : past now y.b
        case false =>
          have d1 := hp' false hp
          rw [Bool.not_false] at d1
          have HR := Lib.hid (HX.out.stay hy hns hp)
          have hln := HR.out.vis.len
          have hg : goneT now (d ++ [y]) = goneT now d := by
            unfold goneT
            rw [List.filter_append, List.filter_cons_of_neg (by unfold pastT; rw [hp]; decide)]
            simp
          have HG := Lib.hid hg
          clear hp' hp hg cT2
          go_wp2_with fail
          go_roundw
          case rel => exact ⟨d ++ [y], l1, s1, HR.out, by simpa using HO.out.2.1, by rw [HG.out]; exact HO.out.1, HO.out.2.2.1, HO.out.2.2.2.1, by omega⟩
          case measure => rw [hC, HO.out.2.1.count]; simp at hln ⊢; omega
        case true =>
          have d1 := hp' true hp
          rw [Bool.not_true] at d1
          obtain ⟨i, hiy⟩ := List.mem_iff_getElem?.1 hy
          have HR := Lib.hid (HX.out.go hiy hns hp)
          clear hp' hp
          have hln := HR.out.1.vis.len
          have LN : keyI.look y.b.near (l1.map Te.inN) 0 = some (i, y.b.v) := by
            have := look_here (K := keyI) (x := y.inN) (o := 0) (i := i) (l := l1.map Te.inN) (by
              rw [List.map_map]
              have := HX.out.inv.nears
              rw [List.map_map] at this
              exact this) (by rw [List.getElem?_map, hiy]; rfl)
            rw [Nat.zero_add] at this
            exact this
          have LF : keyF.look y.b.flow (l1.map Te.inF) 0 = some (i, .int .i64 y.b.near) := by
            have := look_here (K := keyF) (x := y.inF) (o := 0) (i := i) (l := l1.map Te.inF) (by
              rw [List.map_map]
              have := HX.out.inv.flows
              rw [List.map_map] at this
              exact this) (by rw [List.getElem?_map, hiy]; rfl)
            rw [Nat.zero_add] at this
            exact this
          have N2 := HO.out.2.2.1.nears
          have hgv : s1.giveQ y.b.near = 0 := by unfold PS.giveQ; rw [if_pos HR.out.2.1]
          have K2 := HO.out.2.2.2.2
          go_upto_region 12 with (first | (refine at_delmap rfl _ _ 103 53 rfl N2 keyI_finds rfl Tryd.underlying103 y.b.near y.b.v i LN rfl ?_))
          have hne : w1.heap.size ≠ gN := by omega
          have N3 := N2.put ((l1.map Te.inN).eraseIdx i) cN (fun x hx => N2.old x ((List.eraseIdx_sublist ..).subset hx))
          have k3 : Kp [gN] W2 (putMap keyI W2 gN ((l1.map Te.inN).eraseIdx i) cN) := (Kp.refl _ W2).put (by simp) _ _
          refine at_worldE (fun W => MapIs keyI W gN ((l1.map Te.inN).eraseIdx i) cN ∧ Kp [gN] W2 W) ⟨N3, k3⟩ ?_
          clear N3 k3 N2 d1 wl cl cT2
          rintro W3 ⟨N3, k3⟩
          have BT := HO.out.2.2.1.ptr.kp k3 (by simp; omega)
          have cT1 : W3.cell? ⟨gT, 1, none⟩ = some (.map (some gF)) := BT.cells 1
          have K3 := K2.kp k3 (by simp; omega)
          have F3 := HO.out.2.2.1.flows.kp k3 (by simp; omega)
          have cT1d : W3.drew.cell? ⟨gT, 1, none⟩ = some (.map (some gF)) := cT1
          refine wp_region_held_drew (S := (fun w' => w'.cell? ⟨gT, 1, none⟩ = some (.map (some gF)) ∧ Blk w' w1.heap.size 53 y.b.cells)) (by kernel_rfl) ⟨cT1d, Blk.drew K3⟩ (fun hS0 => ?_)
          have F4 := F3.drewN 1
          have N4 := N3.drewN 1
          have k4 := k3.drew
          change MapIs keyF W3.drew _ _ _ at F4
          change MapIs keyI W3.drew _ _ _ at N4
          clear K2 K3 N3 F3 k3 BT cT1 cT1d
          generalize W3.drew = V at *
          (refine wpAnyH_take (i := 0) (v := ?_) rfl (by kernel_rfl) (by kernel_rfl) (by kernel_rfl) (fun _ _ _ h => h) (Or.inl ⟨by rfl, ?_⟩) (by assumption) ?_; rotate_left; focus (intro w hSw; (try dsimp only at hSw); go_simp; try with_reducible rfl); try simp only [Act.put, List.getElem_toArray, List.getElem_cons_succ, List.getElem_cons_zero, List.setIfInBounds_toArray, List.set_cons_zero, List.set_cons_succ])
          (refine wpAnyH_take (i := 1) (v := ?_) rfl (by kernel_rfl) (by kernel_rfl) (by kernel_rfl) (fun _ _ _ h => h) (Or.inl ⟨by rfl, ?_⟩) (by assumption) ?_; rotate_left; focus (intro w hSw; (try dsimp only at hSw); go_simp; try with_reducible rfl); try simp only [Act.put, List.getElem_toArray, List.getElem_cons_succ, List.getElem_cons_zero, List.setIfInBounds_toArray, List.set_cons_zero, List.set_cons_succ])
          (refine wpAnyH_take (i := 2) (v := ?_) rfl (by kernel_rfl) (by kernel_rfl) (by kernel_rfl) (fun _ _ _ h => h) (Or.inl ⟨by rfl, ?_⟩) (by assumption) ?_; rotate_left; focus (intro w hSw; (try dsimp only at hSw); go_simp; try with_reducible rfl); try simp only [Act.put, List.getElem_toArray, List.getElem_cons_succ, List.getElem_cons_zero, List.setIfInBounds_toArray, List.set_cons_zero, List.set_cons_succ])
          (refine wpAnyH_take (i := 3) (v := ?_) rfl (by kernel_rfl) (by kernel_rfl) (by kernel_rfl) (fun _ _ _ h => h) (Or.inl ⟨by rfl, ?_⟩) (by assumption) ?_; rotate_left; focus (intro w hSw; (try dsimp only at hSw); go_simp; try with_reducible rfl); try simp only [Act.put, List.getElem_toArray, List.getElem_cons_succ, List.getElem_cons_zero, List.setIfInBounds_toArray, List.set_cons_zero, List.set_cons_succ])
          (refine wpAnyH_take (i := 4) (v := ?_) rfl (by kernel_rfl) (by kernel_rfl) (by kernel_rfl) (fun _ _ _ h => h) (Or.inl ⟨by rfl, ?_⟩) (by assumption) ?_; rotate_left; focus (intro w hSw; (try dsimp only at hSw); go_simp; try with_reducible rfl); try simp only [Act.put, List.getElem_toArray, List.getElem_cons_succ, List.getElem_cons_zero, List.setIfInBounds_toArray, List.set_cons_zero, List.set_cons_succ])
          refine wpAnyH_take (i := 5) rfl (by kernel_rfl) (by kernel_rfl) (by kernel_rfl) (fun _ _ _ h => h) (Or.inl ⟨by rfl, fun W hS => exec_load rfl rfl (loaBdF hS.2)⟩) (by assumption) ?_
          (try simp only [Act.put, List.getElem_toArray, List.getElem_cons_succ, List.getElem_cons_zero, List.setIfInBounds_toArray, List.set_cons_zero, List.set_cons_succ])
          (refine wpAnyH_ready (rs := [6]) (by kernel_rfl) (by simp) ?_; refine AllReadyH.cons rfl (fun K hK => ?_) AllReadyH.nil)
          have hu : (Builtin.delete_ #[102, 47] 0 #[.map (some gF), .agg y.b.flow.cells]).run Tryd.prog V = .ok (.tuple #[]) _ := F4.delete keyF_finds 102 3 0 Tryd.underlying102 y.b.flow (.int .i64 y.b.near) i LF
          go_simp
          have F5 := F4.put ((l1.map Te.inF).eraseIdx i) cF (fun x hx => F4.old x ((List.eraseIdx_sublist ..).subset hx))
          have k5 : Kp [gF] V (putMap keyF V gF ((l1.map Te.inF).eraseIdx i) cF) := (Kp.refl _ V).put (by simp) _ _
          have S5 := hS0.2.kp k5 (by simp; omega)
          refine hK.out _ _ ⟨(World.cell?_of_block (putMap_other keyF V gF _ _ hTB.2.1)).trans hS0.1, S5⟩ ?_
          clear hK K hu hS0
          intro hS
          refine wpAnyH_done (by kernel_rfl) ?_ _
          have N5 := N4.kp k5 (by simp; omega)
          have k6 : Kp [gF, gN] W2 (putMap keyF V gF ((l1.map Te.inF).eraseIdx i) cF) := (k4.mono (by simp)).trans (k5.mono (by simp))
          clear F4 N4 k4 k5 hS
          generalize putMap keyF V gF ((l1.map Te.inF).eraseIdx i) cF = V5 at *
          have P5 := HO.out.2.2.1.prt.kp k6 (by simp; omega) (by simp; omega)
          have T5 := HO.out.2.2.1.ptr.kp k6 (by simp; omega)
          have cT0 : V5.cell? ⟨gT, 0, none⟩ = some (.pointer (some ⟨gP, 0, none⟩)) := T5.cells 0
          have hs6 := k6.size
          have E5 : ∀ g, g < W2.heap.size → g ≠ gF → g ≠ gN → V5.heap[g]? = W2.heap[g]? := fun g hg h1 h2 => k6.block g hg (by simp; exact ⟨h1, h2⟩)
          have HQ := Lib.hid (And.intro F5 (And.intro N5 (And.intro k6 (And.intro T5 S5))))
          have HGV := Lib.hid (give_any gP gB s1 y.b.near V5 P5 hIs)
          clear F5 N5 k6 T5 P5 S5 hIs LN LF
          go_wp2_with fail
          refine HGV.out.mono ?_
          rintro e V6 ⟨rfl, p6, g6⟩
          rw [hgv, erv_zero]
          have k7 := Kp.ofRow g6
          have K6 := HQ.out.2.2.2.2.only g6 (by omega)
          have ld : (Instr.loadAt 53 (.pointer (some ⟨w1.heap.size, 0, none⟩))).run Tryd.prog V6 = .ok (.agg #[.int .i64 y.b.flow.kind, .int .i64 y.b.flow.client.x0, .int .i64 y.b.flow.client.x1, .int .i64 y.b.flow.client.x2, .int .i64 y.b.flow.client.x3, .int .i64 y.b.flow.client.x4, .int .i64 y.b.flow.client.x5, .int .i64 y.b.flow.client.x6, .int .i64 y.b.flow.client.x7, .int .i64 y.b.flow.port, .int .i64 y.b.flow.dst.x0, .int .i64 y.b.flow.dst.x1, .int .i64 y.b.flow.dst.x2, .int .i64 y.b.flow.dst.x3, .int .i64 y.b.flow.dst.x4, .int .i64 y.b.flow.dst.x5, .int .i64 y.b.flow.dst.x6, .int .i64 y.b.flow.dst.x7, .int .i64 y.b.flow.door, .int .i64 y.b.near, .int .i64 y.b.back, .int .i64 y.b.far, .int .i64 y.b.last]) V6 := loaBd K6
          have HK6 := Lib.hid K6
          clear HGV K6
          go_wp2_with (first | ((apply load_by rfl _ _ rfl _ rfl); (focus (with_reducible assumption))) | (at_builtin; refine Halt.out ?_))
          refine Halt.mk ?_
          obtain ⟨F5, N5, k6, T5, S5⟩ := HQ.out
          have hlo : ∀ k, u6.ownBlock = some k → w'.heap.size + 1 ≤ k := fun k hk => (HO.out.1.lt k hk).1
          have hs7 := k7.size
          have ow6 := ((HO.out.1.kp k6 (fun g hg => by have := hlo g hg; simp; omega)).kp k7 (fun g hg => by have := hlo g hg; simp; omega))
          have i6 := (HO.out.2.1.kp k6 (by simp; omega)).kp k7 (by simp; omega)
          have T6 := T5.kp k7 (by simp; omega)
          have F6 := F5.kp k7 (by simp; omega)
          have N6 := N5.kp k7 (by simp; omega)
          have kk6 : Kp [gB, gF, gN] w' V6 := (HO.out.2.2.2.1.trans (k6.mono (by simp))).trans (k7.mono (by simp))
          have hap2 := HO.out.2.2.1.apart
          have hsz : (goneT now d).length ≤ 128 := by
            have h1 : (goneT now d).length ≤ d.length := by unfold goneT; rw [List.length_map]; exact List.length_filter_le _ _
            omega
          clear ld HQ k7 F5 N5 k6 T5 S5
          refine appBL rfl _ _ rfl (w'.heap.size + 1) u6 (goneT now d) rfl (ow6.ext ((Ext.refl V6).alloc _)) _ _ _ [y.b] rfl (Blk.binds1 (b := y.b) (Blk.new _ _ _)) (by omega) (by simp; omega) ?_
          intro v9 W9 o9 g9 b9 l9
          have hnl : ∀ g, g < w'.heap.size → g ∉ u6.ownBlock.toList := fun g hg hm => by
            have := hlo g (by simpa using hm); omega
          have E7 : Ext V6 _ := (Ext.refl V6).alloc (.cells #[.int .i64 y.b.flow.kind, .int .i64 y.b.flow.client.x0, .int .i64 y.b.flow.client.x1, .int .i64 y.b.flow.client.x2, .int .i64 y.b.flow.client.x3, .int .i64 y.b.flow.client.x4, .int .i64 y.b.flow.client.x5, .int .i64 y.b.flow.client.x6, .int .i64 y.b.flow.client.x7, .int .i64 y.b.flow.port, .int .i64 y.b.flow.dst.x0, .int .i64 y.b.flow.dst.x1, .int .i64 y.b.flow.dst.x2, .int .i64 y.b.flow.dst.x3, .int .i64 y.b.flow.dst.x4, .int .i64 y.b.flow.dst.x5, .int .i64 y.b.flow.dst.x6, .int .i64 y.b.flow.dst.x7, .int .i64 y.b.flow.door, .int .i64 y.b.near, .int .i64 y.b.back, .int .i64 y.b.far, .int .i64 y.b.last] 53)
          have kr := Kp.ofRow g9
          have i9 := (i6.ext E7).kp kr (fun hm => by have := hlo _ (by simpa using hm); omega)
          have t9 : Tab W9 gT gP gB gF gN (s1.back y.b.near) (l1.eraseIdx i) cF cN :=
            ⟨(T6.ext E7).kp kr (hnl _ hTl), (p6.ext E7).kp kr (hnl _ hPl) (hnl _ hBl), by rw [← erase_inF]; exact (F6.ext E7).kp kr (hnl _ hFl), by rw [← erase_inN]; exact (N6.ext E7).kp kr (hnl _ hNl), hap2⟩
          have k9 := (kk6.andExt E7).grown g9 (fun g hg => by have := hlo g hg; omega)
          have hs9 := (E7.size)
          have hs10 := g9.size
          have hc9 := i9.count
          have o10 : KB.Own 53 W9 (w'.heap.size + 1) v9 (goneT now (d ++ [y])) := by rw [HR.out.2.2]; exact o9
          have HF := Lib.hid (And.intro o10 (And.intro i9 (And.intro t9 k9)))
          clear o9 g9 b9 l9 E7 kr i9 t9 k9 o10 ow6 i6 T6 F6 N6 kk6 p6 g6 hnl hlo
          go_wp2_with fail
          go_roundw
          case rel => exact ⟨d ++ [y], l1.eraseIdx i, s1.back y.b.near, HR.out.1, by simpa using HF.out.2.1, HF.out.1, HF.out.2.2.1, HF.out.2.2.2, by omega⟩
          case measure => rw [hC, hc9]; simp at hln ⊢; omega
end Go.Proofs.YtefdhlmljocnkaaDoor
/- bind.New and bind.Expire, whole. Conditions: as each lemma states them. -/
namespace Go.Proofs.YtefdhlmljocnkaaDoor
open Go.RowKit
set_option maxRecDepth 100000 in
set_option maxHeartbeats 1000000 in
theorem bnewT (n : Nat) (w : World) (h0 : 1 ≤ n) (h1 : n ≤ 16) :
    Calls Tryd.prog 13 #[.int .i64 (n : Int)] w fun e w' => ∃ G : TG, e = .returned (.tuple #[.pointer (some ⟨G.gT, 0, none⟩), .nilIface]) ∧ TB w' G (PS.zero n) [] ∧ Ext w w' ∧ ∀ g ∈ G.all, w.heap.size ≤ g := by
  have hmm := @run_makeMap Tryd.prog
  go_enter Tryd.func13, Tryd.ntmps13
  go_wp2_with fail
  refine (new_ok n w h0 h1).mono ?_
  rintro e W1 ⟨gP, gB, rfl, P1, E1, hgP, hgB⟩
  have hz1 := E1.size
  go_wp2_with fail
  go_returns
  have E2 := ((E1.alloc (.map #[] 0)).alloc (.map #[] 0)).alloc (.cells #[.pointer (some ⟨gP, 0, none⟩), .map (some W1.heap.size), .map (some (W1.heap.size + 1))] 105)
  have hP := P1.ptr.lt
  have hB := P1.row.lt
  have hne := P1.ne
  refine ⟨⟨W1.heap.size + 1 + 1, gP, gB, W1.heap.size, W1.heap.size + 1⟩, rfl, ⟨⟨[], 0, 0, ⟨?_, ((P1.alloc _).alloc _).alloc _, ⟨?_, fun _ h => (by cases h)⟩, ⟨?_, fun _ h => (by cases h)⟩, ?_⟩, List.Perm.refl _, List.nodup_nil⟩, Inv.zero n⟩, E2, ?_⟩
  · exact Blk.at _ _ _ (by simp)
  · show (((W1.alloc (.map #[] 0)).alloc (.map #[] 0)).alloc _).heap[W1.heap.size]? = _
    rw [heap_alloc_old _ _ (by simp; omega), heap_alloc_old _ _ (by simp)]
    exact heap_alloc_new _ _
  · show (((W1.alloc (.map #[] 0)).alloc (.map #[] 0)).alloc _).heap[W1.heap.size + 1]? = _
    rw [heap_alloc_old _ _ (by simp)]
    have := heap_alloc_new (W1.alloc (.map #[] 0)) (.map #[] 0)
    simpa using this
  · simp; omega
  · intro g hg
    simp [TG.all] at hg
    omega
/-- Expire, whole. -/
theorem expire_any (G : TG) (s : PS) (B : List Bd) (now : Int) (w : World) (h : TB w G s B) :
    Calls Tryd.prog 23 #[.pointer (some ⟨G.gT, 0, none⟩), .int .i64 now] w fun e w' => ∃ v, e = .returned (.tuple #[v, erv (if okT now = true then 0 else 1)]) ∧ KB.Own 53 w' w.heap.size v (if okT now = true then outB now B else []) ∧
      TB w' G (if okT now = true then s.backs (outB now B) else s) (if okT now = true then restB now B else B) ∧ Kp G.mut w w' := by
  obtain ⟨l, cF, cN, ht, p, hnd⟩ := h.ex
  cases hn : okT now
  case false =>
    refine (texp_bad G.gT now w hn).mono ?_
    rintro e w' ⟨rfl, rfl⟩
    exact ⟨_, rfl, Kin.Own.nil _ _, h, Kp.refl _ _⟩
  case true =>
    refine (texp_any _ _ _ _ _ s l cF cN B now w ht p hnd h.inv hn).mono ?_
    rintro e w' ⟨v, l', rfl, ho, ht', p', hnd', hi', k⟩
    exact ⟨v, rfl, ho, ⟨⟨l', cF, cN, ht', p', hnd'⟩, hi'⟩, k⟩
end Go.Proofs.YtefdhlmljocnkaaDoor
/- Two binds compared. Conditions: as each lemma states them. -/
namespace Go.Proofs.YtefdhlmljocnkaaDoor
open Go.RowKit
set_option maxRecDepth 100000 in
theorem run_flowEq9 (a b : Flow) (w : World) : (Op.equalIn 9999 47 (.agg a.cells) (.agg b.cells)).run Tryd.prog w = .ok (flowEq a b) w := by
  have hI : ∀ x y : Int, (Op.equalIn 9998 3 (.int .i64 x) (.int .i64 y)).run Tryd.prog w = .ok (x == y) w := fun x y => run_equalIn_int w 9997 3 .i64 .i64 x y Tryd.underlying3
  have hS : ∀ x y : Six, (Op.equalIn 9998 23 (.agg x.cells) (.agg y.cells)).run Tryd.prog w = .ok (sixEq x y) w := fun x y => run_sixEq x y 9996 w
  have hfs : (Tryd.prog.fieldsOf 47).toList.map (fun f => (f.type, f.offset)) = [(3, 0), (23, 1), (3, 9), (23, 10), (3, 18)] := by kernel_rfl
  have p0 : ∀ f : Flow, (part 3 f.cells 0).run Tryd.prog w = .ok (.int .i64 f.kind) w := fun f => by kernel_rfl
  have p1 : ∀ f : Flow, (part 23 f.cells 1).run Tryd.prog w = .ok (.agg f.client.cells) w := fun f => by kernel_rfl
  have p2 : ∀ f : Flow, (part 3 f.cells 9).run Tryd.prog w = .ok (.int .i64 f.port) w := fun f => by kernel_rfl
  have p3 : ∀ f : Flow, (part 23 f.cells 10).run Tryd.prog w = .ok (.agg f.dst.cells) w := fun f => by kernel_rfl
  have p4 : ∀ f : Flow, (part 3 f.cells 18).run Tryd.prog w = .ok (.int .i64 f.door) w := fun f => by kernel_rfl
  rw [run_equalIn_struct w 9998 47 a.cells b.cells (by kernel_rfl) (by kernel_rfl), eqFields_TO _ _ _ _ _ (by kernel_rfl), hfs]
  have := eqTO_step (p0 a) (p0 b) (hI _ _) (eqTO_step (p1 a) (p1 b) (hS _ _) (eqTO_step (p2 a) (p2 b) (hI _ _) (eqTO_step (p3 a) (p3 b) (hS _ _) (eqTO_step (r := []) (p := true) (p4 a) (p4 b) (hI _ _) rfl))))
  rw [this]
  unfold flowEq
  rw [Bool.and_true]
/-- Are two binds the same? -/
def bdEq (a b : Bd) : Bool := flowEq a.flow b.flow && ((a.near == b.near) && ((a.back == b.back) && ((a.far == b.far) && (a.last == b.last))))
theorem bdEq_iff (a b : Bd) : bdEq a b = true ↔ a = b := by
  unfold bdEq
  simp only [Bool.and_eq_true, beq_iff_eq, flowEq_iff]
  constructor
  · rintro ⟨h1, h2, h3, h4, h5⟩
    cases a; cases b
    simp_all
  · rintro rfl
    exact ⟨rfl, rfl, rfl, rfl, rfl⟩
set_option maxRecDepth 100000 in
theorem run_bdEq (a b : Bd) (w : World) : (Op.equalIn 10000 53 (.agg a.cells) (.agg b.cells)).run Tryd.prog w = .ok (bdEq a b) w := by
  have hI : ∀ x y : Int, (Op.equalIn 9999 3 (.int .i64 x) (.int .i64 y)).run Tryd.prog w = .ok (x == y) w := fun x y => run_equalIn_int w 9998 3 .i64 .i64 x y Tryd.underlying3
  have hF : ∀ x y : Flow, (Op.equalIn 9999 47 (.agg x.cells) (.agg y.cells)).run Tryd.prog w = .ok (flowEq x y) w := fun x y => run_flowEq9 x y w
  have hfs : (Tryd.prog.fieldsOf 53).toList.map (fun f => (f.type, f.offset)) = [(47, 0), (3, 19), (3, 20), (3, 21), (3, 22)] := by kernel_rfl
  have p0 : ∀ f : Bd, (part 47 f.cells 0).run Tryd.prog w = .ok (.agg f.flow.cells) w := fun f => by kernel_rfl
  have p1 : ∀ f : Bd, (part 3 f.cells 19).run Tryd.prog w = .ok (.int .i64 f.near) w := fun f => by kernel_rfl
  have p2 : ∀ f : Bd, (part 3 f.cells 20).run Tryd.prog w = .ok (.int .i64 f.back) w := fun f => by kernel_rfl
  have p3 : ∀ f : Bd, (part 3 f.cells 21).run Tryd.prog w = .ok (.int .i64 f.far) w := fun f => by kernel_rfl
  have p4 : ∀ f : Bd, (part 3 f.cells 22).run Tryd.prog w = .ok (.int .i64 f.last) w := fun f => by kernel_rfl
  rw [run_equalIn_struct w 9999 53 a.cells b.cells (by kernel_rfl) (by kernel_rfl), eqFields_TO _ _ _ _ _ (by kernel_rfl), hfs]
  have := eqTO_step (p0 a) (p0 b) (hF _ _) (eqTO_step (p1 a) (p1 b) (hI _ _) (eqTO_step (p2 a) (p2 b) (hI _ _) (eqTO_step (p3 a) (p3 b) (hI _ _) (eqTO_step (r := []) (p := true) (p4 a) (p4 b) (hI _ _) rfl))))
  rw [this]
  unfold bdEq
  rw [Bool.and_true]
end Go.Proofs.YtefdhlmljocnkaaDoor
/- What an argument is, once it is read: addresses, flows, lists of servers. Conditions: as each lemma states them. -/
namespace Go.Proofs.YtefdhlmljocnkaaDoor
open Go.ChangeShapes Go.WideShapes Go.ChangeAt Go.RowKit

def Six.Is (s : Six) : Prop := ∀ k, IsInt (s.l.getD k 0)

section
variable {H : Type} {enc : TypeId × Value → H} {W : World}

theorem open_cell_int {n : Nat} {c : Value} {y : Option (DataW H × List MemPlace)} (hy : y.isSome = true) (h : DataW.trod enc Tryd.prog W 0 (fun _ => true) true n 3 [c] = y) : ∃ x, c = .int .i64 x ∧ IsInt x := by
  obtain ⟨y, rfl⟩ := Option.isSome_iff_exists.1 hy
  obtain ⟨x, hx, _, hw⟩ := DataW.trod_int Tryd.underlying3 h
  exact ⟨x, by simpa using hx, wf_i64 hw⟩
theorem open_cell_bool {n : Nat} {c : Value} {y : Option (DataW H × List MemPlace)} (hy : y.isSome = true) (h : DataW.trod enc Tryd.prog W 0 (fun _ => true) true n 4 [c] = y) : ∃ x, c = .bool x := by
  obtain ⟨y, rfl⟩ := Option.isSome_iff_exists.1 hy
  obtain ⟨x, hx, _⟩ := DataW.trod_bool Tryd.underlying4 h
  exact ⟨x, by simpa using hx⟩
theorem isSome_at {α : Type} {xs : List α} {n j : Nat} (h : xs.length = n) (hj : j < n) : (xs[j]?).isSome = true := by
  rw [List.getElem?_eq_getElem (by omega)]; rfl

theorem Tryd.cellsInt : Tryd.prog.cellsOf 3 = 1 := by kernel_rfl
theorem Tryd.cellsSix : Tryd.prog.cellsOf 23 = 8 := by kernel_rfl
theorem Tryd.cellsFlow : Tryd.prog.cellsOf 47 = 19 := by kernel_rfl
theorem Tryd.cellsBool : Tryd.prog.cellsOf 4 = 1 := by kernel_rfl
theorem Tryd.cellsBack : Tryd.prog.cellsOf 95 = 6 := by kernel_rfl

set_option maxRecDepth 100000 in
theorem open_cells_six {n : Nat} {cs : List Value} {y : Option (DataW H × List MemPlace)} (hy : y.isSome = true) (h : DataW.trod enc Tryd.prog W 0 (fun _ => true) true n 23 cs = y) : ∃ s : Six, cs = s.cells.toList ∧ s.Is := by
  obtain ⟨y, rfl⟩ := Option.isSome_iff_exists.1 hy
  obtain ⟨xs, m, _, _, hl, hlen, hg⟩ := DataW.trod_array Tryd.underlying23 h
  match cs, hl.trans Tryd.cellsSix with
  | [c0, c1, c2, c3, c4, c5, c6, c7], _ =>
    obtain ⟨x0, rfl, i0⟩ := open_cell_int (isSome_at (j := 0) hlen (by omega)) (by simpa [Tryd.cellsInt] using hg 0 (by omega))
    obtain ⟨x1, rfl, i1⟩ := open_cell_int (isSome_at (j := 1) hlen (by omega)) (by simpa [Tryd.cellsInt] using hg 1 (by omega))
    obtain ⟨x2, rfl, i2⟩ := open_cell_int (isSome_at (j := 2) hlen (by omega)) (by simpa [Tryd.cellsInt] using hg 2 (by omega))
    obtain ⟨x3, rfl, i3⟩ := open_cell_int (isSome_at (j := 3) hlen (by omega)) (by simpa [Tryd.cellsInt] using hg 3 (by omega))
    obtain ⟨x4, rfl, i4⟩ := open_cell_int (isSome_at (j := 4) hlen (by omega)) (by simpa [Tryd.cellsInt] using hg 4 (by omega))
    obtain ⟨x5, rfl, i5⟩ := open_cell_int (isSome_at (j := 5) hlen (by omega)) (by simpa [Tryd.cellsInt] using hg 5 (by omega))
    obtain ⟨x6, rfl, i6⟩ := open_cell_int (isSome_at (j := 6) hlen (by omega)) (by simpa [Tryd.cellsInt] using hg 6 (by omega))
    obtain ⟨x7, rfl, i7⟩ := open_cell_int (isSome_at (j := 7) hlen (by omega)) (by simpa [Tryd.cellsInt] using hg 7 (by omega))
    refine ⟨⟨x0, x1, x2, x3, x4, x5, x6, x7⟩, rfl, fun k => ?_⟩
    match k with
    | 0 => exact i0
    | 1 => exact i1
    | 2 => exact i2
    | 3 => exact i3
    | 4 => exact i4
    | 5 => exact i5
    | 6 => exact i6
    | 7 => exact i7
    | k + 8 => simp [Six.l, IsInt]

set_option maxRecDepth 100000 in
/-- An address that came in. -/
theorem open_six {v : Value} {d : DataW H} {p : List MemPlace} {base : Nat} (hv : Value.okWide Tryd.prog W .any base 23 v) (h : DataW.Trod enc Tryd.prog W 0 (fun _ => true) true 23 v d p) : ∃ s : Six, v = s.v ∧ s.Is := by
  obtain ⟨fuel, hf⟩ := h
  obtain ⟨s, hs, hi⟩ := open_cells_six rfl hf
  simp only [Value.okWide, Tryd.underlying23] at hv
  obtain ⟨cs, rfl, _⟩ := hv
  refine ⟨s, ?_, hi⟩
  have : cs.toList = s.cells.toList := by simpa [Value.cells] using hs
  rw [Array.toList_inj.1 this]

def Flow.Is (f : Flow) : Prop := IsInt f.kind ∧ f.client.Is ∧ IsInt f.port ∧ f.dst.Is ∧ IsInt f.door
set_option maxRecDepth 100000 in
theorem open_cells_flow {n : Nat} {cs : List Value} {y : Option (DataW H × List MemPlace)} (hy : y.isSome = true) (h : DataW.trod enc Tryd.prog W 0 (fun _ => true) true n 47 cs = y) : ∃ f : Flow, cs = f.cells.toList ∧ f.Is := by
  obtain ⟨y, rfl⟩ := Option.isSome_iff_exists.1 hy
  obtain ⟨xs, m, _, _, hl, hlen, hg⟩ := DataW.trod_struct Tryd.underlying47 h
  match cs, hl.trans Tryd.cellsFlow with
  | [c0, c1, c2, c3, c4, c5, c6, c7, c8, c9, c10, c11, c12, c13, c14, c15, c16, c17, c18], _ =>
    obtain ⟨x0, rfl, i0⟩ := open_cell_int (isSome_at (j := 0) hlen (by simp)) (by simpa [Tryd.cellsInt] using hg 0 _ rfl)
    obtain ⟨s1, h1, i1⟩ := open_cells_six (isSome_at (j := 1) hlen (by simp)) (by simpa [Tryd.cellsSix] using hg 1 _ rfl)
    obtain ⟨x2, rfl, i2⟩ := open_cell_int (isSome_at (j := 2) hlen (by simp)) (by simpa [Tryd.cellsInt] using hg 2 _ rfl)
    obtain ⟨s3, h3, i3⟩ := open_cells_six (isSome_at (j := 3) hlen (by simp)) (by simpa [Tryd.cellsSix] using hg 3 _ rfl)
    obtain ⟨x4, rfl, i4⟩ := open_cell_int (isSome_at (j := 4) hlen (by simp)) (by simpa [Tryd.cellsInt] using hg 4 _ rfl)
    refine ⟨⟨x0, s1, x2, s3, x4⟩, ?_, i0, i1, i2, i3, i4⟩
    have e1 : [c1, c2, c3, c4, c5, c6, c7, c8] = s1.cells.toList := h1
    have e3 : [c10, c11, c12, c13, c14, c15, c16, c17] = s3.cells.toList := h3
    simp only [Six.cells, List.cons.injEq, and_true] at e1 e3
    obtain ⟨rfl, rfl, rfl, rfl, rfl, rfl, rfl, rfl⟩ := e1
    obtain ⟨rfl, rfl, rfl, rfl, rfl, rfl, rfl, rfl⟩ := e3
    rfl
set_option maxRecDepth 100000 in
theorem open_flow {v : Value} {d : DataW H} {p : List MemPlace} {base : Nat} (hv : Value.okWide Tryd.prog W .any base 47 v) (h : DataW.Trod enc Tryd.prog W 0 (fun _ => true) true 47 v d p) : ∃ f : Flow, v = f.v ∧ f.Is := by
  obtain ⟨cs, rfl, hsz⟩ := okWide_struct Tryd.underlying47 hv
  obtain ⟨fuel, hf⟩ := h
  obtain ⟨s, hs, hi⟩ := open_cells_flow rfl hf
  refine ⟨s, ?_, hi⟩
  have : cs.toList = s.cells.toList := by simpa [Value.cells] using hs
  rw [Array.toList_inj.1 this]

/-- Servers that came in. -/
def IsBacks (w : World) (a : Option Addr) (n c : Nat) (bs : List Pl.Back) : Prop := Backs w a n bs ∧ n ≤ c ∧ c ≤ maxLen
instance : Inhabited Pl.Back := ⟨Pl.back0⟩
set_option maxRecDepth 100000 in
theorem open_backs {a : Option Addr} {n c : Nat} {d : DataW H} {p : List MemPlace}
    (h : DataW.Trod enc Tryd.prog W 0 (fun _ => true) true 24 (.slice a n c) d p) : ∃ bs, IsBacks W a n c bs := by
  obtain ⟨fuel, hf⟩ := h
  rcases Go.Deep.open_slice Tryd.underlying24 hf with ⟨hcs, _⟩ | ⟨x, l, c', m, n', D, P, hcs, _, hl, hm, hmm, _, hx⟩
  · simp [Value.cells] at hcs
    obtain ⟨rfl, rfl, rfl⟩ := hcs
    exact ⟨[], ⟨rfl, .inl rfl⟩, Nat.le_refl _, Nat.zero_le _⟩
  · simp [Value.cells] at hcs
    obtain ⟨rfl, rfl, rfl⟩ := hcs
    simp only [if_true] at hmm
    subst hmm
    obtain ⟨b, off, spot⟩ := x
    have key : ∀ i, i < m → ∃ y : Pl.Back, ∀ j, j < 6 → W.cell? ((Addr.mk b off spot).add (i * 6 + j)) = (#[.int .i64 y.id, .int .i64 y.addr, .int .i64 y.door, .int .i64 y.weight, .bool y.up, .bool y.drain] : Array Value)[j]? := fun i hi => by
      obtain ⟨cs', hc', ht⟩ := hx i hi
      rw [Tryd.cellsBack] at hc'
      obtain ⟨xs, q, _, _, hl', hlen, hg⟩ := DataW.trod_struct Tryd.underlying95 ht
      obtain ⟨_, hcl, hat⟩ := World.cells?_some hc'
      match cs', hl'.trans Tryd.cellsBack with
      | [c0, c1, c2, c3, c4, c5], _ =>
        obtain ⟨x0, rfl, _⟩ := open_cell_int (isSome_at (j := 0) hlen (by simp)) (by simpa [Tryd.cellsInt] using hg 0 _ rfl)
        obtain ⟨x1, rfl, _⟩ := open_cell_int (isSome_at (j := 1) hlen (by simp)) (by simpa [Tryd.cellsInt] using hg 1 _ rfl)
        obtain ⟨x2, rfl, _⟩ := open_cell_int (isSome_at (j := 2) hlen (by simp)) (by simpa [Tryd.cellsInt] using hg 2 _ rfl)
        obtain ⟨x3, rfl, _⟩ := open_cell_int (isSome_at (j := 3) hlen (by simp)) (by simpa [Tryd.cellsInt] using hg 3 _ rfl)
        obtain ⟨x4, rfl⟩ := open_cell_bool (isSome_at (j := 4) hlen (by simp)) (by simpa [Tryd.cellsBool] using hg 4 _ rfl)
        obtain ⟨x5, rfl⟩ := open_cell_bool (isSome_at (j := 5) hlen (by simp)) (by simpa [Tryd.cellsBool] using hg 5 _ rfl)
        refine ⟨⟨x0, x1, x2, x3, x4, x5⟩, fun j hj => ?_⟩
        rw [← Go.Deep.add_add, hat j hj]
        simp
    obtain ⟨F, hF⟩ := Go.Deep.choose_lt key
    refine ⟨(List.range n).map F, ⟨by simp, ?_⟩, hl, hm⟩
    rcases Nat.eq_zero_or_pos n with h0 | h0
    · exact .inl h0
    · refine .inr ?_
      have hspot : spot = none := by
        have := hF 0 (by omega) 0 (by omega)
        simpa [Addr.add] using World.cell?_spot this
      subst hspot
      refine ⟨b, off, rfl, fun i hi => ?_⟩
      have e : ((List.range n).map F).getD i Pl.back0 = F i := by simp [List.getD, hi]
      rw [e]
      have q := hF i (by omega)
      refine ⟨?_, ?_, ?_, ?_, ?_, ?_⟩
      · have := q 0 (by omega); rw [Addr.add_lit] at this; exact this
      · have := q 1 (by omega); rw [Addr.add_lit] at this; exact this
      · have := q 2 (by omega); rw [Addr.add_lit] at this; exact this
      · have := q 3 (by omega); rw [Addr.add_lit] at this; exact this
      · have := q 4 (by omega); rw [Addr.add_lit] at this; exact this
      · have := q 5 (by omega); rw [Addr.add_lit] at this; exact this
end
end Go.Proofs.YtefdhlmljocnkaaDoor
/- What an argument is, once it is read: the steps of a script on ports, binds. Conditions: as each lemma states them. -/
namespace Go.Proofs.YtefdhlmljocnkaaDoor
open Go.ChangeShapes Go.WideShapes Go.ChangeAt Go.RowKit
/-- A step. -/
structure Stp where
  what : Int
  who : Six
  flow : Flow
  n : Int
  m : Int
  now : Int
def Stp.cells (s : Stp) : Array Value := #[.int .i64 s.what, .int .i64 s.who.x0, .int .i64 s.who.x1, .int .i64 s.who.x2, .int .i64 s.who.x3, .int .i64 s.who.x4, .int .i64 s.who.x5, .int .i64 s.who.x6, .int .i64 s.who.x7, .int .i64 s.flow.kind, .int .i64 s.flow.client.x0, .int .i64 s.flow.client.x1, .int .i64 s.flow.client.x2, .int .i64 s.flow.client.x3, .int .i64 s.flow.client.x4, .int .i64 s.flow.client.x5, .int .i64 s.flow.client.x6, .int .i64 s.flow.client.x7, .int .i64 s.flow.port, .int .i64 s.flow.dst.x0, .int .i64 s.flow.dst.x1, .int .i64 s.flow.dst.x2, .int .i64 s.flow.dst.x3, .int .i64 s.flow.dst.x4, .int .i64 s.flow.dst.x5, .int .i64 s.flow.dst.x6, .int .i64 s.flow.dst.x7, .int .i64 s.flow.door, .int .i64 s.n, .int .i64 s.m, .int .i64 s.now]
structure Stp.Is (s : Stp) : Prop where
  what : IsInt s.what
  who : s.who.Is
  flow : s.flow.Is
  n : IsInt s.n
  m : IsInt s.m
  now : IsInt s.now
theorem Stp.cells_one (s : Stp) : s.cells.all (·.oneCell') = true := by simp [Stp.cells, Value.oneCell']
def KT : Kin Stp := ⟨fun s => s.cells.toList, 31, by decide, fun _ => rfl, fun s u hu => (Array.all_eq_true_iff_forall_mem.1 s.cells_one) u (by simpa using hu)⟩
/-- Steps that came in. -/
def IsSteps (w : World) (a : Option Addr) (n c : Nat) (l : List Stp) : Prop := KT.See w a n l ∧ n ≤ c ∧ c ≤ maxLen ∧ ∀ s ∈ l, s.Is
section
variable {H : Type} {enc : TypeId × Value → H} {W : World}
theorem Tryd.cellsStp : Tryd.prog.cellsOf 49 = 31 := by kernel_rfl
set_option maxRecDepth 100000 in
theorem open_steps {a : Option Addr} {n c : Nat} {d : DataW H} {p : List MemPlace}
    (h : DataW.Trod enc Tryd.prog W 0 (fun _ => true) true 40 (.slice a n c) d p) : ∃ l, IsSteps W a n c l := by
  obtain ⟨fuel, hf⟩ := h
  rcases Go.Deep.open_slice Tryd.underlying40 hf with ⟨hcs, _⟩ | ⟨x, l, c', m, n', D, P, hcs, _, hl, hm, hmm, _, hx⟩
  · simp [Value.cells] at hcs
    obtain ⟨rfl, rfl, rfl⟩ := hcs
    exact ⟨[], Kin.See.nil _ _, Nat.le_refl _, Nat.zero_le _, fun s h => by cases h⟩
  · simp [Value.cells] at hcs
    obtain ⟨rfl, rfl, rfl⟩ := hcs
    simp only [if_true] at hmm
    subst hmm
    obtain ⟨b, off, spot⟩ := x
    have key : ∀ i, i < m → ∃ y : Stp, y.Is ∧ ∀ j, j < 31 → W.cell? ((Addr.mk b off spot).add (i * 31 + j)) = y.cells[j]? := fun i hi => by
      obtain ⟨cs', hc', ht⟩ := hx i hi
      rw [Tryd.cellsStp] at hc'
      obtain ⟨xs, q, _, _, hl', hlen, hg⟩ := DataW.trod_struct Tryd.underlying49 ht
      obtain ⟨_, hcl, hat⟩ := World.cells?_some hc'
      match cs', hl'.trans Tryd.cellsStp with
      | [c0, c1, c2, c3, c4, c5, c6, c7, c8, c9, c10, c11, c12, c13, c14, c15, c16, c17, c18, c19, c20, c21, c22, c23, c24, c25, c26, c27, c28, c29, c30], _ =>
        obtain ⟨x0, rfl, i0⟩ := open_cell_int (isSome_at (j := 0) hlen (by simp)) (by simpa [Tryd.cellsInt] using hg 0 _ rfl)
        obtain ⟨s1, h1, i1⟩ := open_cells_six (isSome_at (j := 1) hlen (by simp)) (by simpa [Tryd.cellsSix] using hg 1 _ rfl)
        obtain ⟨f2, h2, i2⟩ := open_cells_flow (isSome_at (j := 2) hlen (by simp)) (by simpa [Tryd.cellsFlow] using hg 2 _ rfl)
        obtain ⟨x3, rfl, i3⟩ := open_cell_int (isSome_at (j := 3) hlen (by simp)) (by simpa [Tryd.cellsInt] using hg 3 _ rfl)
        obtain ⟨x4, rfl, i4⟩ := open_cell_int (isSome_at (j := 4) hlen (by simp)) (by simpa [Tryd.cellsInt] using hg 4 _ rfl)
        obtain ⟨x5, rfl, i5⟩ := open_cell_int (isSome_at (j := 5) hlen (by simp)) (by simpa [Tryd.cellsInt] using hg 5 _ rfl)
        refine ⟨⟨x0, s1, f2, x3, x4, x5⟩, ⟨i0, i1, i2, i3, i4, i5⟩, fun j hj => ?_⟩
        have e1 : [c1, c2, c3, c4, c5, c6, c7, c8] = s1.cells.toList := h1
        have e2 : [c9, c10, c11, c12, c13, c14, c15, c16, c17, c18, c19, c20, c21, c22, c23, c24, c25, c26, c27] = f2.cells.toList := h2
        simp only [Six.cells, Flow.cells, List.cons.injEq, and_true] at e1 e2
        obtain ⟨rfl, rfl, rfl, rfl, rfl, rfl, rfl, rfl⟩ := e1
        obtain ⟨rfl, rfl, rfl, rfl, rfl, rfl, rfl, rfl, rfl, rfl, rfl, rfl, rfl, rfl, rfl, rfl, rfl, rfl, rfl⟩ := e2
        rw [← Go.Deep.add_add, hat j hj]
        simp [Stp.cells]
    have key' : ∀ i, i < m → ∃ y : Stp, y.Is ∧ ∀ j, j < 31 → W.cell? ((Addr.mk b off spot).add (i * 31 + j)) = y.cells[j]? := key
    obtain ⟨F, hF⟩ : ∃ F : Nat → Stp, ∀ i, i < m → (F i).Is ∧ ∀ j, j < 31 → W.cell? ((Addr.mk b off spot).add (i * 31 + j)) = (F i).cells[j]? :=
      ⟨fun i => if h : i < m then (key' i h).choose else ⟨0, ⟨0, 0, 0, 0, 0, 0, 0, 0⟩, ⟨0, ⟨0, 0, 0, 0, 0, 0, 0, 0⟩, 0, ⟨0, 0, 0, 0, 0, 0, 0, 0⟩, 0⟩, 0, 0, 0⟩, fun i hi => by
        simp only [dif_pos hi]
        exact (key' i hi).choose_spec⟩
    refine ⟨(List.range n).map F, ⟨by simp, ?_⟩, hl, hm, fun s hs => ?_⟩
    · rcases Nat.eq_zero_or_pos n with h0 | h0
      · exact .inl h0
      · refine .inr ?_
        have hspot : spot = none := by
          have := (hF 0 (by omega)).2 0 (by omega)
          simpa [Addr.add] using World.cell?_spot this
        subst hspot
        refine ⟨b, off, rfl, fun i x hi r u hu => ?_⟩
        obtain ⟨hi', hx⟩ := List.getElem?_eq_some_iff.1 hi
        have hi'' : i < n := by simpa using hi'
        have hr : r < 31 := by
          have h1 := (List.getElem?_eq_some_iff.1 hu).1
          have h2 : (KT.f x).length = 31 := KT.len x
          omega
        have e : x = F i := by rw [← hx]; simp
        subst e
        have := (hF i (by omega)).2 r hr
        have hu' : (F i).cells.toList[r]? = some u := hu
        rw [Array.getElem?_toList] at hu'
        rw [hu'] at this
        rw [← this, Addr.add_mid, Nat.add_assoc]
        rfl
    · obtain ⟨i, hi, rfl⟩ := List.mem_map.1 hs
      exact (hF i (by have : i < n := by simpa using hi
                      omega)).1
end
end Go.Proofs.YtefdhlmljocnkaaDoor
/- A step of a script, loaded and stored whole. Conditions: as each lemma states them. -/
namespace Go.Proofs.YtefdhlmljocnkaaDoor
open Go.RowKit
theorem Tryd.sizeStp : (Tryd.prog.info? 49).map (·.size) = some 31 := by kernel_rfl
theorem Kin.See.stp {w : World} {b off n : Nat} {xs : List Stp} (h : KT.See w (some ⟨b, off, none⟩) n xs) {i : Nat} {s : Stp} (hi : xs[i]? = some s) :
    (Instr.loadAt 49 (.pointer (some ⟨b, off + i * 31, none⟩))).run Tryd.prog w = .ok (.agg s.cells) w := by
  have hn : 0 < n := by
    have := (List.getElem?_eq_some_iff.1 hi).1
    rw [h.1] at this
    omega
  rcases h.2 with h0 | ⟨b', off', hb, hc⟩
  · omega
  · cases hb
    have := run_loadAt_mid (P := Tryd.prog) w b (off + i * 31) 49 s.cells.toList _ (fun j v hv => hc i s hi j v hv) Tryd.underlying49 rfl Tryd.sizeStp
    rw [Array.toArray_toList] at this
    exact this
section
variable {w : World} {g : Nat} {t : TypeId} {s : Stp}
theorem Blk.stpSet (h : Blk w g t #[.int .i64 0, .int .i64 0, .int .i64 0, .int .i64 0, .int .i64 0, .int .i64 0, .int .i64 0, .int .i64 0, .int .i64 0, .int .i64 0, .int .i64 0, .int .i64 0, .int .i64 0, .int .i64 0, .int .i64 0, .int .i64 0, .int .i64 0, .int .i64 0, .int .i64 0, .int .i64 0, .int .i64 0, .int .i64 0, .int .i64 0, .int .i64 0, .int .i64 0, .int .i64 0, .int .i64 0, .int .i64 0, .int .i64 0, .int .i64 0, .int .i64 0]) (s : Stp) : (Instr.storeAt 49 (.pointer (some ⟨g, 0, none⟩)) (.agg s.cells)).run Tryd.prog w = .ok () (w.setRow g s.cells) :=
  h.store (ty := 49) (cs := s.cells) rfl Tryd.sizeStp s.cells_one
theorem Blk.stpWho (h : Blk w g t s.cells) : (Instr.loadAt 23 (.pointer (some ⟨g, 1, none⟩))).run Tryd.prog w = .ok (.agg s.who.cells) w :=
  h.six 1 s.who fun j hj => by
    have h : j = 0 ∨ j = 1 ∨ j = 2 ∨ j = 3 ∨ j = 4 ∨ j = 5 ∨ j = 6 ∨ j = 7 := by omega
    rcases h with rfl | rfl | rfl | rfl | rfl | rfl | rfl | rfl <;> rfl
theorem Blk.stpFlow (h : Blk w g t s.cells) : (Instr.loadAt 47 (.pointer (some ⟨g, 9, none⟩))).run Tryd.prog w = .ok (.agg s.flow.cells) w := by
  have := run_loadAt_mid (P := Tryd.prog) w g 9 47 s.flow.cells.toList _ (fun j v hv => by
    rw [Array.getElem?_toList] at hv
    have hj : j < 19 := (Array.getElem?_eq_some_iff.1 hv).1
    rw [h.cells, ← hv]
    have h : j = 0 ∨ j = 1 ∨ j = 2 ∨ j = 3 ∨ j = 4 ∨ j = 5 ∨ j = 6 ∨ j = 7 ∨ j = 8 ∨ j = 9 ∨ j = 10 ∨ j = 11 ∨ j = 12 ∨ j = 13 ∨ j = 14 ∨ j = 15 ∨ j = 16 ∨ j = 17 ∨ j = 18 := by omega
    rcases h with rfl | rfl | rfl | rfl | rfl | rfl | rfl | rfl | rfl | rfl | rfl | rfl | rfl | rfl | rfl | rfl | rfl | rfl | rfl <;> rfl) Tryd.underlying47 rfl Tryd.sizeFlow
  rw [Array.toArray_toList] at this
  exact this
theorem Blk.stpNums (h : Blk w g t s.cells) : w.cell? ⟨g, 0, none⟩ = some (.int .i64 s.what) ∧ w.cell? ⟨g, 28, none⟩ = some (.int .i64 s.n) ∧ w.cell? ⟨g, 29, none⟩ = some (.int .i64 s.m) ∧ w.cell? ⟨g, 30, none⟩ = some (.int .i64 s.now) :=
  ⟨h.cells 0, h.cells 28, h.cells 29, h.cells 30⟩
end
end Go.Proofs.YtefdhlmljocnkaaDoor
/- errors.As at a target that is an Errno, plain.Told and gangplanksame.Error: what they answer of nil and of an Errno. After the kit's worked toy 'toyas', turned to this program's types. Conditions: the variable errors.errorType holds the handle that the row lists. -/
namespace Go.Proofs.YtefdhlmljocnkaaDoor
open Go.RowKit Go.Extern.Stop Go.Stop Go.Extern

theorem Tryd.valueOfT (t : Addr) (w : World) : (ReflectliteValue.unpack (.iface 131 (.pointer (some t)))).run Tryd.prog w
    = .ok (.agg #[.pointer (some ⟨9, 131, none⟩), .pointer (some ⟨w.heap.size, 0, none⟩), .int .u64 150]) (w.alloc (.cells #[.pointer (some t)] 131)) := by kernel_rfl
theorem Tryd.typeT (a : Addr) (w : World) : (ReflectliteValue.methodAny (ReflectliteValue.valueError "reflectlite.Value.Type" 0) (fun t _ _ _ => ReflectliteType.toType t) #[.agg #[.pointer (some ⟨9, 131, none⟩), .pointer (some a), .int .u64 150]]).run Tryd.prog w
    = .ok (.iface 185 (.agg #[.pointer (some ⟨9, 131, none⟩)])) w := by kernel_rfl
theorem Tryd.methodKind (h : Value) (w : World) : (Go.method 377 185 (.agg #[h]) "Kind").run Tryd.prog w = .ok (163, h) w := by kernel_rfl
theorem Tryd.kindT (w : World) : ((ReflectliteType.abiMethod fun t => (fun a : Nat => Value.int IntKind.u8 (a : Int)) <$> Rtype.kind t) #[.pointer (some ⟨9, 131, none⟩)]).run Tryd.prog w = .ok (.int .u8 22) w := by kernel_rfl
theorem Tryd.kindE (w : World) : ((ReflectliteType.abiMethod fun t => (fun a : Nat => Value.int IntKind.u8 (a : Int)) <$> Rtype.kind t) #[.pointer (some ⟨9, 27, none⟩)]).run Tryd.prog w = .ok (.int .u8 2) w := by kernel_rfl
theorem Tryd.methodElem (h : Value) (w : World) : (Go.method 377 185 (.agg #[h]) "Elem").run Tryd.prog w = .ok (179, .agg #[h]) w := by kernel_rfl
theorem Tryd.methodImplements (h : Value) (w : World) : (Go.method 377 185 (.agg #[h]) "Implements").run Tryd.prog w = .ok (180, .agg #[h]) w := by kernel_rfl
theorem Tryd.methodAssignableTo (h : Value) (w : World) : (Go.method 377 185 (.agg #[h]) "AssignableTo").run Tryd.prog w = .ok (177, .agg #[h]) w := by kernel_rfl
theorem Tryd.elemT (w : World) : (ReflectliteType.method ReflectliteType.elem #[.agg #[.pointer (some ⟨9, 131, none⟩)]]).run Tryd.prog w = .ok (.iface 185 (.agg #[.pointer (some ⟨9, 27, none⟩)])) w := by kernel_rfl
theorem Tryd.implementsE (w : World) : (ReflectliteType.relation "Implements" ReflectliteType.implements_ #[.agg #[.pointer (some ⟨9, 27, none⟩)], .iface 185 (.agg #[.pointer (some ⟨9, 31, none⟩)])]).run Tryd.prog w = .ok (.bool true) w := by kernel_rfl
theorem Tryd.typeOfE (v : Value) (w : World) : (ReflectliteType.typeOf #[.iface 27 v]).run Tryd.prog w = .ok (.iface 185 (.agg #[.pointer (some ⟨9, 27, none⟩)])) w := by kernel_rfl
theorem Tryd.assignableE (w : World) : (ReflectliteType.relation "AssignableTo" ReflectliteType.assignableTo #[.agg #[.pointer (some ⟨9, 27, none⟩)], .iface 185 (.agg #[.pointer (some ⟨9, 27, none⟩)])]).run Tryd.prog w = .ok (.bool true) w := by kernel_rfl
theorem Tryd.valueOfE (n : Int) (w : World) : (ReflectliteValue.unpack (.iface 27 (.int .i64 n))).run Tryd.prog w
    = .ok (.agg #[.pointer (some ⟨9, 27, none⟩), .pointer (some ⟨w.heap.size, 0, none⟩), .int .u64 130]) (w.alloc (.cells #[.int .i64 n] 27)) := by kernel_rfl

/-! The entries that read or write memory. -/
theorem rlm (z : Sem Value) (f : TypeId → Addr → Nat → Nat → Sem Value) (v : Value) :
    ReflectliteValue.method z f #[v] = (do match ← ReflectliteValue.parts v with | none => z | some (t, a, fl) => f t a fl (fl % 32)) := rfl
theorem Tryd.partsT (a : Addr) (w : World) : (ReflectliteValue.parts (.agg #[.pointer (some ⟨9, 131, none⟩), .pointer (some a), .int .u64 150])).run Tryd.prog w = .ok (some (131, a, 150)) w := by kernel_rfl
/-- (Value).IsNil at the Value of a target that is not nil. -/
theorem Tryd.isNilT (a p : Addr) (W : World) (ha : W.cell? a = some (.pointer (some p))) :
    (ReflectliteValue.method (ReflectliteValue.valueError "reflectlite.Value.IsNil" 0) ReflectliteValue.isNil #[.agg #[.pointer (some ⟨9, 131, none⟩), .pointer (some a), .int .u64 150]]).run Tryd.prog W = .ok (.bool false) W := by
  rw [rlm]
  simp only [Sem.run_bind, Tryd.partsT, Result.andThen]
  simp [ReflectliteValue.isNil, loadVar, isAgg, underlying, Tryd.underlying131, ha, Result.andThen]
theorem Tryd.elemOfT (w : World) : (Rtype.elem? 131).run Tryd.prog w = .ok (some 27) w := by kernel_rfl
theorem Tryd.mkE (p : Addr) (w : World) : (ReflectliteValue.mk 27 p ReflectliteValue.flagAddr).run Tryd.prog w = .ok (.agg #[.pointer (some ⟨9, 27, none⟩), .pointer (some p), .int .u64 386]) w := by kernel_rfl
/-- (Value).Elem at the Value of the target: the Value of the variable that it points to. -/
theorem Tryd.elemVT (a p : Addr) (W : World) (ha : W.cell? a = some (.pointer (some p))) :
    (ReflectliteValue.method (ReflectliteValue.valueError "reflectlite.Value.Elem" 0) ReflectliteValue.elem #[.agg #[.pointer (some ⟨9, 131, none⟩), .pointer (some a), .int .u64 150]]).run Tryd.prog W
      = .ok (.agg #[.pointer (some ⟨9, 27, none⟩), .pointer (some p), .int .u64 386]) W := by
  rw [rlm]
  simp only [Sem.run_bind, Tryd.partsT, Result.andThen]
  simp [ReflectliteValue.elem, loadVar, isAgg, underlying, Tryd.underlying131, ha, Result.andThen, Tryd.elemOfT, Tryd.mkE]
theorem rls (v x : Value) : ReflectliteValue.set #[v, x] = (do
    let (some (dst, a, fl), some (src, b, _)) := (← ReflectliteValue.parts v, ← ReflectliteValue.parts x)
      | unsupported (.noEntry "extern/(internal/reflectlite.Value).Set.zeroValue")
    if fl / ReflectliteValue.flagAddr % 2 == 0 then unsupported (.noEntry "extern/(internal/reflectlite.Value).Set.unaddressable")
    let val ← loadVar src b
    if ← Rtype.directlyAssignable dst src then storeVar dst a val
    else if ← Rtype.implements dst src then
      if (← Rtype.kind src) == 20 then
        match val with
        | .nilIface => unsupported (.noEntry "extern/reflectlite: a nil value of one interface type handed on as a value of another")
        | _ => storeVar dst a val
      else storeVar dst a (.iface src val)
    else panicString ("reflectlite.Set: value of type " ++ (← Rtype.spelt src) ++ " is not assignable to type " ++ (← Rtype.spelt dst))
    pure (.tuple #[])) := rfl
theorem Tryd.partsEa (a : Addr) (w : World) : (ReflectliteValue.parts (.agg #[.pointer (some ⟨9, 27, none⟩), .pointer (some a), .int .u64 386])).run Tryd.prog w = .ok (some (27, a, 386)) w := by kernel_rfl
theorem Tryd.partsE (a : Addr) (w : World) : (ReflectliteValue.parts (.agg #[.pointer (some ⟨9, 27, none⟩), .pointer (some a), .int .u64 130])).run Tryd.prog w = .ok (some (27, a, 130)) w := by kernel_rfl
theorem Tryd.directE (w : World) : (Rtype.directlyAssignable 27 27).run Tryd.prog w = .ok true w := by kernel_rfl
theorem Tryd.sizeE (w : World) : (sizeOf 27).run Tryd.prog w = .ok 1 w := by kernel_rfl
/-- (Value).Set: the Errno at 'ta' gets what the Value's own variable 'b' holds. -/
theorem Tryd.setE (ta b : Addr) (n : Int) (old : Value) (W : World) (hb : W.cell? b = some (.int .i64 n)) (ht : W.cell? ta = some old) (hf : W.frozen? ta = false) :
    (ReflectliteValue.set #[.agg #[.pointer (some ⟨9, 27, none⟩), .pointer (some ta), .int .u64 386], .agg #[.pointer (some ⟨9, 27, none⟩), .pointer (some b), .int .u64 130]]).run Tryd.prog W
      = .ok (.tuple #[]) (W.setCell ta (.int .i64 n)) := by
  rw [rls]
  simp only [Sem.run_bind, Tryd.partsEa, Tryd.partsE, Result.andThen]
  simp [ReflectliteValue.flagAddr, loadVar, isAgg, underlying, Tryd.underlying27, hb, Result.andThen, Tryd.directE, storeVar, Value.cells, storeCells, Addr.add]
  rw [run_store Tryd.prog W ta _ _ (by rfl)]
  simp [ht, hf]

/-- What the handle's variable holds. -/
def Handle (w : World) : Prop := w.cell? ⟨0, 0, none⟩ = some (.iface 185 (.agg #[.pointer (some ⟨9, 31, none⟩)]))

set_option maxHeartbeats 4000000 in
theorem as_hit (n : Int) (t : Addr) (old : Value) (w : World) (hg : Handle w) (ht0 : w.cell? t = some old) (hf0 : w.frozen? t = false) :
    Calls Tryd.prog 66 #[.iface 27 (.int .i64 n), .iface 131 (.pointer (some t))] w fun ev w' => ev = .returned (.bool true) ∧ ∃ X : World, Below w.heap.size w X ∧ w' = X.setCell t (.int .i64 n) := by
  unfold Handle at hg
  have h6 := @run_callFunc_extern Tryd.prog 85 _ (fun args => ReflectliteValue.unpack (args.getD 0 (.tuple #[]))) Tryd.func85 (by kernel_rfl) (by kernel_rfl) (by kernel_rfl) (by kernel_rfl)
  have h7 := @run_callFunc_extern Tryd.prog 86 _ (ReflectliteValue.methodAny (ReflectliteValue.valueError "reflectlite.Value.Type" 0) (fun t _ _ _ => ReflectliteType.toType t)) Tryd.func86 (by kernel_rfl) (by kernel_rfl) (by kernel_rfl) (by kernel_rfl)
  have h8 := @run_callFunc_extern Tryd.prog 87 _ (ReflectliteValue.method (ReflectliteValue.valueError "reflectlite.Value.IsNil" 0) ReflectliteValue.isNil) Tryd.func87 (by kernel_rfl) (by kernel_rfl) (by kernel_rfl) (by kernel_rfl)
  have h27 := @run_callFunc_extern Tryd.prog 163 _ (ReflectliteType.abiMethod fun t => do pure (.int .u8 (← Rtype.kind t))) Tryd.func163 (by kernel_rfl) (by kernel_rfl) (by kernel_rfl) (by kernel_rfl)
  have h37 := @run_callFunc_extern Tryd.prog 179 _ (ReflectliteType.method ReflectliteType.elem) Tryd.func179 (by kernel_rfl) (by kernel_rfl) (by kernel_rfl) (by kernel_rfl)
  have h38 := @run_callFunc_extern Tryd.prog 180 _ (ReflectliteType.relation "Implements" ReflectliteType.implements_) Tryd.func180 (by kernel_rfl) (by kernel_rfl) (by kernel_rfl) (by kernel_rfl)
  have h10 := @run_callFunc_extern Tryd.prog 104 _ ReflectliteType.typeOf Tryd.func104 (by kernel_rfl) (by kernel_rfl) (by kernel_rfl) (by kernel_rfl)
  have h35 := @run_callFunc_extern Tryd.prog 177 _ (ReflectliteType.relation "AssignableTo" ReflectliteType.assignableTo) Tryd.func177 (by kernel_rfl) (by kernel_rfl) (by kernel_rfl) (by kernel_rfl)
  have h11 := @run_callFunc_extern Tryd.prog 105 _ (ReflectliteValue.method (ReflectliteValue.valueError "reflectlite.Value.Elem" 0) ReflectliteValue.elem) Tryd.func105 (by kernel_rfl) (by kernel_rfl) (by kernel_rfl) (by kernel_rfl)
  have h12 := @run_callFunc_extern Tryd.prog 106 _ ReflectliteValue.set Tryd.func106 (by kernel_rfl) (by kernel_rfl) (by kernel_rfl) (by kernel_rfl)
  have tO := Tryd.typeOfE
  have mA := Tryd.methodAssignableTo
  have a25 := Tryd.assignableE
  have v25 := Tryd.valueOfE
  have f6 := Tryd.valueOfT
  have f7 := Tryd.typeT
  have mK := Tryd.methodKind
  have mE := Tryd.methodElem
  have mI := Tryd.methodImplements
  have k27 := Tryd.kindT
  have k25 := Tryd.kindE
  have e27 := Tryd.elemT
  have i25 := Tryd.implementsE
  have n8 := Tryd.isNilT ⟨w.heap.size, 0, none⟩ t ((w.alloc (.cells #[.pointer (some t)] 131)).alloc (.cells #[.pointer (some ⟨9, 131, none⟩), .pointer (some ⟨w.heap.size, 0, none⟩), .int .u64 150] 163)) (by simp)
  have hlt : 0 < w.heap.size := by
    rcases Nat.lt_or_ge 0 w.heap.size with h | h
    · exact h
    · simp [World.cell?, Array.getElem?_eq_none h] at hg
  have hg2 : ((w.alloc (.cells #[.pointer (some t)] 131)).alloc (.cells #[.pointer (some ⟨9, 131, none⟩), .pointer (some ⟨w.heap.size, 0, none⟩), .int .u64 150] 163)).cell? ⟨0, 0, none⟩ = some (.iface 185 (.agg #[.pointer (some ⟨9, 31, none⟩)])) := by
    rw [World.cell?_alloc_lt _ _ ⟨0, 0, none⟩ (by simp), World.cell?_alloc_lt _ _ ⟨0, 0, none⟩ hlt]; exact hg
  have htl : t.block < w.heap.size := by
    rcases Nat.lt_or_ge t.block w.heap.size with h | h
    · exact h
    · simp [World.cell?, Array.getElem?_eq_none h] at ht0
  have el := Tryd.elemVT ⟨w.heap.size, 0, none⟩ t (((w.alloc (.cells #[.pointer (some t)] 131)).alloc (.cells #[.pointer (some ⟨9, 131, none⟩), .pointer (some ⟨w.heap.size, 0, none⟩), .int .u64 150] 163)).alloc (.cells #[.pointer (some ⟨9, 131, none⟩), .pointer (some ⟨w.heap.size, 0, none⟩), .int .u64 150] 163)) (by rw [World.cell?_alloc_lt _ _ ⟨w.heap.size, 0, none⟩ (by simp; omega)]; simp)
  have st := Tryd.setE t ⟨w.heap.size + 1 + 1 + 1, 0, none⟩ n old ((((w.alloc (.cells #[.pointer (some t)] 131)).alloc (.cells #[.pointer (some ⟨9, 131, none⟩), .pointer (some ⟨w.heap.size, 0, none⟩), .int .u64 150] 163)).alloc (.cells #[.pointer (some ⟨9, 131, none⟩), .pointer (some ⟨w.heap.size, 0, none⟩), .int .u64 150] 163)).alloc (.cells #[.int .i64 n] 27))
    (by rw [World.cell?_alloc_at _ _ _ _ (by simp)]; rfl)
    (by rw [World.cell?_alloc_lt _ _ t (by simp; omega), World.cell?_alloc_lt _ _ t (by simp; omega), World.cell?_alloc_lt _ _ t (by simp; omega), World.cell?_alloc_lt _ _ t htl]; exact ht0)
    (by rw [World.frozen?_alloc_old _ _ t (by simp; omega), World.frozen?_alloc_old _ _ t (by simp; omega), World.frozen?_alloc_old _ _ t (by simp; omega), World.frozen?_alloc_old _ _ t (Nat.ne_of_lt htl)]; exact hf0)
  go_enter Tryd.func66, Tryd.ntmps66
  go_wp2
  refine wp_loop_rounds 1 ?_
  rw [rounds_succ]
  go_wp2
  go_ret
  exact ⟨rfl, _, by go_grown, rfl⟩
end Go.Proofs.YtefdhlmljocnkaaDoor
/- plain.Told and gangplanksame.Error of nil and of an Errno. Conditions: the variable errors.errorType holds the handle that the row lists (Handle). -/
namespace Go.Proofs.YtefdhlmljocnkaaDoor
open Go.RowKit

theorem Handle.below {w w' : World} (h : Handle w) (hb : Below w.heap.size w w') : Handle w' := by
  unfold Handle at *
  rw [hb.cell (World.block_lt_of_cell? w _ h)]
  exact h

theorem told_nil (w : World) : Calls Tryd.prog 41 #[.nilIface] w fun e w' => e = .returned (.int .i64 0) ∧ w = w' := by
  go_enter Tryd.func41, Tryd.ntmps41
  go_wp2
  go_ret
  exact ⟨rfl, rfl⟩
theorem told_err (n : Int) (w : World) (hg : Handle w) : Calls Tryd.prog 41 #[errv n] w fun e w' => e = .returned (.int .i64 n) ∧ Below w.heap.size w w' := by
  have hb : Below w.heap.size w (w.alloc (.cells #[.int .i64 0] 27)) := by go_grown
  have H := Lib.hid (hg.below hb)
  have hc : (w.alloc (.cells #[.int .i64 0] 27)).cell? ⟨w.heap.size, 0, none⟩ = some (.int .i64 0) := by simp
  have hf : (w.alloc (.cells #[.int .i64 0] 27)).frozen? ⟨w.heap.size, 0, none⟩ = false := by simp
  have hz : w.heap.size < (w.alloc (.cells #[.int .i64 0] 27)).heap.size := by simp
  have HC := Lib.hid hc
  have HF := Lib.hid hf
  clear hg hc hf
  unfold errv
  go_enter Tryd.func41, Tryd.ntmps41
  go_wp2_with fail
  generalize w.alloc (.cells #[.int .i64 0] 27) = W1 at *
  with_reducible refine (as_hit n ⟨w.heap.size, 0, none⟩ _ W1 H.out HC.out HF.out).mono ?_
  rintro e w' ⟨rfl, X, hX, rfl⟩
  have hx : X.cell? ⟨w.heap.size, 0, none⟩ = some (.int .i64 0) := (hX.cell (p := ⟨w.heap.size, 0, none⟩) hz).trans HC.out
  have hn : (X.setCell ⟨w.heap.size, 0, none⟩ (.int .i64 n)).cell? ⟨w.heap.size, 0, none⟩ = some (.int .i64 n) := by simp [go_sem, hx]
  have B : Below w.heap.size w (X.setCell ⟨w.heap.size, 0, none⟩ (.int .i64 n)) := (hb.trans (hX.mono hb.size)).setCell (p := ⟨w.heap.size, 0, none⟩) (Nat.le_refl _) _
  generalize X.setCell ⟨w.heap.size, 0, none⟩ (.int .i64 n) = W2 at *
  go_wp2_with fail
  go_ret
  exact ⟨rfl, B⟩

theorem error_nil (m : Int) (w : World) : Calls Tryd.prog 8 #[.nilIface, .int .i64 m] w fun e w' => e = .returned (.bool ((0 : Int) == m)) ∧ w = w' := by
  go_enter Tryd.func8, Tryd.ntmps8
  go_wp2_with fail
  refine (told_nil w).mono ?_
  rintro e w' ⟨rfl, rfl⟩
  go_wp2_with fail
  go_ret
  exact ⟨rfl, rfl⟩
theorem error_err (n m : Int) (w : World) (hg : Handle w) : Calls Tryd.prog 8 #[errv n, .int .i64 m] w fun e w' => e = .returned (.bool (n == m)) ∧ Below w.heap.size w w' := by
  have H := Lib.hid hg
  clear hg
  unfold errv
  go_enter Tryd.func8, Tryd.ntmps8
  go_wp2_with fail
  refine (told_err n w H.out).mono ?_
  rintro e w' ⟨rfl, hb⟩
  go_wp2_with fail
  go_ret
  exact ⟨rfl, hb⟩
end Go.Proofs.YtefdhlmljocnkaaDoor
/- Errors by number, told alike: what the statements compare. Conditions: Handle, where an error is looked at. -/
namespace Go.Proofs.YtefdhlmljocnkaaDoor
open Go.RowKit
theorem err_same (q : Int) (w : World) (hg : Handle w) : Calls Tryd.prog 8 #[erv q, .int .i64 q] w fun e w' => e = .returned (.bool true) ∧ Below w.heap.size w w' := by
  by_cases h : q = 0
  · subst h
    rw [erv_zero]
    exact (error_nil 0 w).mono fun _ _ ⟨he, hw⟩ => ⟨he, by rw [← hw]; exact Below.refl _ _⟩
  · rw [erv_ne h]
    exact (error_err q q w hg).mono fun _ _ ⟨he, hb⟩ => ⟨by rw [he]; simp, hb⟩
end Go.Proofs.YtefdhlmljocnkaaDoor
/- What the condition of a tied row gives: the handle in errors.errorType; a world that meets it. After the kit's worked toy 'toyas'. Conditions: as each lemma states them. -/
namespace Go.Proofs.YtefdhlmljocnkaaDoor
open Go.ChangeShapes Go.WideShapes Go.ChangeAt Go.RowKit

def laid : List (String × DataW Unit) := [("errors.errorType", Rows.laid_errors_errorType)]
theorem Tryd.et : Tryd.prog.globalNamed "errors.errorType" = some 0 := by kernel_rfl
theorem Tryd.rt : (Tryd.prog.cutTypes.find? (·.1 == "internal/reflectlite.rtype")).map (·.2) = some 185 := by kernel_rfl
theorem Tryd.oneRow : ((List.range 277).filter fun t => Tryd.prog.rowNamed t [101, 114, 114, 111, 114]) = [31] := by kernel_rfl
theorem Tryd.sizeTypes : Tryd.prog.types.size = 277 := by kernel_rfl

theorem handle_of_laid {W : World} (h : laidMetH Tryd.prog laid W) : Handle W := by
  have h' : laidMet Tryd.prog [] W ∧ handlesMet Tryd.prog laid W := h
  obtain ⟨name, u, ty, e1, e2, e3, e4, e5⟩ := h'.2 _ (List.mem_singleton.2 rfl)
  have en : name = [101, 114, 114, 111, 114] := (Option.some.inj e1).symm
  subst en
  obtain rfl := Option.some.inj (Tryd.rt.symm.trans e2)
  have hm : ty ∈ (List.range 277).filter fun t => Tryd.prog.rowNamed t [101, 114, 114, 111, 114] := List.mem_filter.2 ⟨List.mem_range.2 (by rw [← Tryd.sizeTypes]; exact e3), e4⟩
  rw [Tryd.oneRow] at hm
  obtain rfl := List.mem_singleton.1 hm
  have hh : typeHandle Tryd.prog 31 = .pointer (some ⟨9, 31, none⟩) := by kernel_rfl
  rw [hh] at e5
  have := World.var?_cell Tryd.et e5 0
  unfold Handle
  simpa using this

/-- A world that meets the condition: the settled one, the variable's cell laid. -/
noncomputable def laidWorld (os : Os) : World :=
  let w0 := World.holding Tryd.prog os ⟨#[], #[], []⟩
  { w0 with heap := w0.heap.modify 0 fun
      | .cells _ t frozen => .cells #[.iface 185 (.agg #[.pointer (some ⟨9, 31, none⟩)])] t frozen
      | o => o }
theorem laidWorld_met (os : Os) (args : Array Value) : laidMetH Tryd.prog laid ((laidWorld os).forCall (fun _ _ => 0) ⟨#[], args, []⟩).memory :=
  laidMetH_of_parts (laidMet_nil _ _) (by kernel_rfl)
theorem vars_nil {H : Type} {enc : TypeId × Value → H} {W : World} {gs : List (DataW H)} {q : List MemPlace} (hV : DataW.TrodVars enc Tryd.prog W (fun _ => true) [] gs q) : gs = [] ∧ q = [] := by
  cases gs with
  | nil => exact ⟨rfl, hV⟩
  | cons g r => exact absurd hV (by intro h; cases h)
end Go.Proofs.YtefdhlmljocnkaaDoor
namespace Go.Proofs.YtefdhlmljocnkaaDoor.bindApart
open Go.ChangeShapes Go.WideShapes Go.ChangeAt Go.RowKit
/-- The flow of the closed fact. -/
def flow17 : Flow := ⟨17, ⟨0, 0, 0, 0, 0, 0, 0, 0⟩, 0, ⟨0, 0, 0, 0, 0, 0, 0, 0⟩, 0⟩
def b0 : Bd := ⟨flow17, 1024, 5, 6, 0⟩
theorem f1 : bMakeQ flow17 5 6 0 (PS.zero 1) [] = 0 := by decide +kernel
theorem f2 : newBd flow17 5 6 0 (PS.zero 1) = b0 := (bdEq_iff _ _).1 (by decide +kernel)
theorem f3 : past 30 b0 = true := by decide +kernel
theorem f4 : outB 30 (insB b0 []) = [b0] := by simp [outB, insB, f3]
theorem f5 : restB 30 (insB b0 []) = [] := by simp [restB, insB, f3]
/-- A bind's flow in a row, read whole. -/
theorem bflow {w : World} {b off n : Nat} {xs : List Bd} (h : KB.See w (some ⟨b, off, none⟩) n xs) {i : Nat} {x : Bd} (hi : xs[i]? = some x) :
    (Instr.loadAt 47 (.pointer (some ⟨b, off + i * 23, none⟩))).run Tryd.prog w = .ok (.agg x.flow.cells) w := by
  have hn : 0 < n := by
    have := (List.getElem?_eq_some_iff.1 hi).1
    rw [h.1] at this
    omega
  rcases h.2 with h0 | ⟨b', off', hb, hc⟩
  · omega
  · cases hb
    have e : x.cells = x.flow.cells ++ #[.int .i64 x.near, .int .i64 x.back, .int .i64 x.far, .int .i64 x.last] := rfl
    have := run_loadAt_mid (P := Tryd.prog) w b (off + i * 23) 47 x.flow.cells.toList _ (fun j v hv => hc i x hi j v (by
      show x.cells.toList[j]? = some v
      rw [Array.getElem?_toList] at hv ⊢
      rw [e, Array.getElem?_append_left (Array.getElem?_eq_some_iff.1 hv).1]
      exact hv)) Tryd.underlying47 rfl Tryd.sizeFlow
    rw [Array.toArray_toList] at this
    exact this
/-- A bind's numbers in a row. -/
theorem bnums {w : World} {b off n : Nat} {xs : List Bd} (h : KB.See w (some ⟨b, off, none⟩) n xs) {i : Nat} {x : Bd} (hi : xs[i]? = some x) :
    w.cell? ⟨b, off + i * 23, none⟩ = some (.int .i64 x.flow.kind) ∧ w.cell? ⟨b, off + i * 23 + 19, none⟩ = some (.int .i64 x.near) ∧ w.cell? ⟨b, off + i * 23 + 22, none⟩ = some (.int .i64 x.last) := by
  have hn : 0 < n := by
    have := (List.getElem?_eq_some_iff.1 hi).1
    rw [h.1] at this
    omega
  rcases h.2 with h0 | ⟨b', off', hb, hc⟩
  · omega
  · cases hb
    exact ⟨hc i x hi 0 _ rfl, hc i x hi 19 _ rfl, hc i x hi 22 _ rfl⟩
/-- In the midst of a script. -/
structure AP (w0 w : World) (G : TG) (n : Nat) (s : PS) (B : List Bd) : Prop where
  tb : TB w G s B
  n : s.n = n
  new : ∀ g ∈ G.all, w0.heap.size ≤ g
  ext : Below w0.heap.size w0 w
theorem AP.size {w0 w : World} {G : TG} {n : Nat} {s : PS} {B : List Bd} (h : AP w0 w G n s B) : w0.heap.size ≤ w.heap.size := h.ext.size
theorem AP.grow {w0 w w' : World} {G : TG} {n : Nat} {s : PS} {B : List Bd} (h : AP w0 w G n s B) (e : Ext w w') : AP w0 w' G n s B := ⟨h.tb.ext e, h.n, h.new, h.ext.trans (e.mono h.size)⟩
theorem AP.turn {w0 w w' : World} {G : TG} {n : Nat} {s s' : PS} {B B' : List Bd} (h : AP w0 w G n s B) (t : TB w' G s' B') (hn : s'.n = n) (k : Kp G.mut w w') : AP w0 w' G n s' B' :=
  ⟨t, hn, h.new, Below.kp h.ext k h.size (fun g hg => h.new g (by simp [TG.mut] at hg; simp [TG.all]; omega))⟩
theorem take_n (s : PS) (who : Six) : (s.take who).n = s.n := by
  unfold PS.take
  split <;> rfl
theorem AP.make {w0 w w' : World} {G : TG} {n : Nat} {s : PS} {B : List Bd} (h : AP w0 w G n s B) {q : Int} {who : Six} {B' : List Bd} (t : TB w' G (if q = 0 then s.take who else s) B') (k : Kp G.mut w w') : AP w0 w' G n (if q = 0 then s.take who else s) B' :=
  h.turn t (by split; exact (take_n s who).trans h.n; exact h.n) k
theorem AP.past {w0 w w' : World} {G : TG} {n : Nat} {s : PS} {B : List Bd} (h : AP w0 w G n s B) {b : Bool} {C B' : List Bd} (t : TB w' G (if b = true then s.backs C else s) B') (k : Kp G.mut w w') : AP w0 w' G n (if b = true then s.backs C else s) B' :=
  h.turn t (by split; exact h.n; exact h.n) k
set_option maxRecDepth 100000 in
set_option maxHeartbeats 4000000 in
theorem walk (x0 : Int) (a1 : Option Addr) (n1 c1 : Nat) (l1 : List Stp) (x2 : Int) (w : World) (hg : Handle w) (w0 : IsInt x0) (w1 : IsSteps w a1 n1 c1 l1) (_w2 : IsInt x2) :
    Calls Tryd.prog 5 #[.int .i64 x0, .slice a1 n1 c1, .int .i64 x2] w fun e w' => e = .returned (.bool true) ∧ Below w.heap.size w w' := by
  obtain ⟨hl, hnc, hcm, his⟩ := w1
  have HL := Lib.hid hl
  have HI := Lib.hid his
  have HG := Lib.hid hg
  clear hl his hg
  go_enter Tryd.func5, Tryd.ntmps5
  go_wp2_with fail
  refine (bnewT 1 w (by omega) (by omega)).mono ?_
  rintro e W1 ⟨Gz, rfl, T1, E1, hz1⟩
  go_wp2_with fail
  refine (make_any Gz (PS.zero 1) [] flow17 5 6 0 W1 T1).mono ?_
  rintro e W2 ⟨rfl, T2, k2⟩
  rw [f1, f2, if_pos rfl, if_pos rfl] at T2
  rw [f1, f2, if_pos rfl, erv_zero]
  have B2 : Below w.heap.size w W2 := Below.kp E1 k2 E1.size (fun g hg => hz1 g (by simp [TG.mut] at hg; simp [TG.all]; omega))
  generalize (PS.zero 1).take flow17.client = sz at *
  have KZ := Blk.new W2 53 #[.int .i64 0, .int .i64 0, .int .i64 0, .int .i64 0, .int .i64 0, .int .i64 0, .int .i64 0, .int .i64 0, .int .i64 0, .int .i64 0, .int .i64 0, .int .i64 0, .int .i64 0, .int .i64 0, .int .i64 0, .int .i64 0, .int .i64 0, .int .i64 0, .int .i64 0, .int .i64 0, .int .i64 0, .int .i64 0, .int .i64 0]
  have st := stoBd KZ b0
  have K5 := KZ.row b0.cells
  have E5 : Ext W2 _ := ((Ext.refl W2).alloc (.cells #[.int .i64 0, .int .i64 0, .int .i64 0, .int .i64 0, .int .i64 0, .int .i64 0, .int .i64 0, .int .i64 0, .int .i64 0, .int .i64 0, .int .i64 0, .int .i64 0, .int .i64 0, .int .i64 0, .int .i64 0, .int .i64 0, .int .i64 0, .int .i64 0, .int .i64 0, .int .i64 0, .int .i64 0, .int .i64 0, .int .i64 0] 53)).row (k := W2.heap.size) (Nat.le_refl _) b0.cells
  clear KZ E1 k2 T1
  go_wp2_with ((apply store_by rfl _ _ _ rfl _ rfl); (focus (with_reducible assumption)); (focus rfl))
  refine at_world (fun W => Below w.heap.size w W ∧ TB W Gz sz (insB b0 []) ∧ Blk W W2.heap.size 53 b0.cells) ⟨B2.trans (E5.mono B2.size), T2.ext E5, K5⟩ ?_
  have lz := T2.lt
  clear st E5 K5 B2 T2
  rintro W3 ⟨B3, T3, K3⟩
  refine (expire_any Gz sz (insB b0 []) 30 W3 T3).mono ?_
  rintro e W4 ⟨v, rfl, o4, T4, k4⟩
  rw [show okT 30 = true from rfl, if_pos rfl, f4] at o4
  rw [show okT 30 = true from rfl, if_pos rfl, if_pos rfl, f4, f5] at T4
  rw [show okT 30 = true from rfl, if_pos rfl, erv_zero]
  have B4 : Below w.heap.size w W4 := Below.kp B3 k4 B3.size (fun g hg => hz1 g (by simp [TG.mut] at hg; simp [TG.all]; omega))
  have hw3 : W2.heap.size ∉ Gz.mut := fun hm => by
    have := lz W2.heap.size (by simp [TG.mut] at hm; simp [TG.all]; omega)
    omega
  have K4 := K3.kp k4 hw3
  obtain ⟨a4, cap4, rfl, _, _, _, _⟩ := o4.open
  have cn := K4.cells 19
  change _ = some (Value.int .i64 1024) at cn
  clear K3 K4 o4 k4 B3 T3
  generalize sz.backs [b0] = sy at *
  go_wp2_with fail
  refine (all_any Gz sy [] W4 T4).mono ?_
  rintro e W5 ⟨v5, rfl, o5, E5⟩
  obtain ⟨a5, cap5, rfl, _, _, _, _⟩ := o5.open
  have B5 : Below w.heap.size w W5 := B4.trans (E5.mono B4.size)
  clear o5 E5 B4 T4 cn
  go_wp2_with fail
  by_cases hx : x0 < 1 ∨ 16 < x0
  · refine (bnew_no x0 W5 hx).mono ?_
    rintro e W6 ⟨rfl, rfl⟩
    unfold errv
    by_cases h1 : x0 < 1
    · have d1 : decide (x0 < 1) = true := decide_eq_true h1
      clear hx
      go_wp2_with fail
      go_ret
      exact ⟨rfl, B5⟩
    · have d1 : decide (x0 < 1) = false := decide_eq_false h1
      have d2 : decide (16 < x0) = true := decide_eq_true (by omega)
      clear hx
      go_wp2_with fail
      go_ret
      exact ⟨rfl, B5⟩
  obtain ⟨n, rfl⟩ : ∃ n : Nat, x0 = (n : Int) := ⟨x0.toNat, by omega⟩
  have hn0 : 1 ≤ n := by omega
  have hn1 : n ≤ 16 := by omega
  clear hx
  refine (bnewT n W5 hn0 hn1).mono ?_
  rintro e W6 ⟨G, rfl, T6, E6, hz6⟩
  have N6 : AP w W6 G n (PS.zero n) [] := ⟨T6, rfl, fun g hg => Nat.le_trans B5.size (hz6 g hg), B5.trans (E6.mono B5.size)⟩
  clear T6 E6 B5
  go_wp2_with fail
  go_loopw [14] (fun i wr => ∃ (k : Nat) (s : PS) (B : List Bd), k ≤ n1 ∧ k ≤ 60 ∧ i = .int .i64 k ∧ AP w wr G n s B) (fun i _ => n1 - (intOf i).toNat)
  case atStart => exact ⟨0, PS.zero n, [], Nat.zero_le _, by omega, rfl, N6⟩
  case round =>
    clear N6
    obtain ⟨k, s, B, hk, hk8, rfl, N⟩ := hrel
    have HN := Lib.hid N
    by_cases hend : k = n1 ∨ k = 60
    · have hor : (decide ((k : Int) < (n1 : Int)) = false) ∨ (decide ((k : Int) < (n1 : Int)) = true ∧ decide ((k : Int) < 60) = false) := by
        rcases hend with h | h
        · exact .inl (decide_eq_false (by omega))
        · by_cases hkn : k = n1
          · exact .inl (decide_eq_false (by omega))
          · exact .inr ⟨decide_eq_true (by omega), decide_eq_false (by omega)⟩
      have HGw := Lib.hid (HG.out.below N.ext)
      have hB' : B.length ≤ 128 := by
        obtain ⟨l, cF, cN, ht, _⟩ := N.tb.ex
        exact (Inv.range N.tb.inv.toInv0 ht.prt.n1).2
      have HI0 := Lib.hid N.tb.inv
      have hsum : (outB x2 B).length + (restB x2 B).length = B.length := by
        unfold outB restB
        rw [← List.length_append]
        exact (List.filter_append_perm (past x2) B).length_eq
      clear hend N
      rcases hor with d1 | ⟨d1, d2⟩
      case' inl => have d1' : decide (k < n1) = false := by simpa using d1
      case' inr =>
        have d1' : decide (k < n1) = true := by simpa using d1
        have d2' : decide (k < 60) = false := by simp at d2 ⊢; omega
      all_goals
        go_wp2_with fail
        refine (all_any G s B wr HN.out.tb).mono ?_
        rintro e W7 ⟨v7, rfl, o7, E7⟩
        obtain ⟨a7, c7, rfl, hc7, _, _, _⟩ := o7.open
        have HN7 := Lib.hid (HN.out.grow E7)
        clear o7 E7
        go_wp2_with fail
        refine (expire_any G s B x2 W7 HN7.out.tb).mono ?_
        rintro e W8 ⟨v8, rfl, o8, t8, k8⟩
        have N8 := HN7.out.past t8 k8
        clear t8 k8
        cases hx2 : okT x2
        case false =>
          rw [if_neg (by decide)]
          have hex := N8.ext
          have hor2 : (decide (x2 < 0) = true) ∨ (decide (x2 < 0) = false ∧ decide (1099511627776 < x2) = true) := by
            have h0 : ¬ (0 ≤ x2 ∧ x2 ≤ 1099511627776) := fun h => by rw [okT_iff.2 h] at hx2; cases hx2
            by_cases h1 : x2 < 0
            · exact .inl (decide_eq_true h1)
            · exact .inr ⟨decide_eq_false h1, decide_eq_true (by omega)⟩
          rw [erv_ne (by decide)]
          unfold errv
          clear N8 o8 hx2
          rcases hor2 with e1 | ⟨e1, e2⟩
          all_goals
            go_wp2_with fail
            go_ret
            exact ⟨rfl, hex⟩
        case true =>
          rw [hx2, if_pos rfl] at o8
          rw [hx2, if_pos rfl, if_pos rfl] at N8
          rw [if_pos rfl, erv_zero]
          obtain ⟨a8, c8, rfl, hc8, r8, _, _⟩ := o8.open
          have HN8 := Lib.hid N8
          have R8 := Lib.hid r8
          have hxT := okT_iff.1 hx2
          clear N8 r8 o8 hx2
          go_wp2_with fail
          refine (all_any G _ (restB x2 B) W8 HN8.out.tb).mono ?_
          rintro e W9 ⟨v9, rfl, o9, E9⟩
          obtain ⟨a9, c9, rfl, hc9, r9, _, _⟩ := o9.open
          have HN9 := Lib.hid (HN8.out.grow E9)
          have R9 := Lib.hid r9
          have RG := Lib.hid (R8.out.ext E9)
          obtain ⟨nG, hnG⟩ : ∃ nG, (outB x2 B).length = nG := ⟨_, rfl⟩
          obtain ⟨nR, hnR⟩ : ∃ nR, (restB x2 B).length = nR := ⟨_, rfl⟩
          have wsum : IntKind.i64.wrap ((nG : Int) + (nR : Int)) = (B.length : Int) := by rw [IntWalk.i64_in _ (by omega)]; omega
          rw [hnG, hnR] at hsum
          rw [hnG] at hc8 RG ⊢
          rw [hnR] at hc9 R9 ⊢
          have HGL := Lib.hid (And.intro hnG hnR)
          clear r9 o9 E9 R8 HN8 HN7
          go_wp2_with fail
          go_loopw [24] (fun i wr2 => ∃ j : Nat, j ≤ nG ∧ i = .int .i64 j ∧ Below W9.heap.size W9 wr2) (fun i _ => nG - (intOf i).toNat)
          case atStart => exact ⟨0, Nat.zero_le _, rfl, Below.refl _ _⟩
          case round =>
            obtain ⟨j, hj, rfl, E9⟩ := hrel
            by_cases hlt : j < nG
            case neg =>
              have d3 : decide ((j : Int) < (nG : Int)) = false := decide_eq_false (by omega)
              have d4 : decide (j < nG) = false := decide_eq_false hlt
              have HE9 := Lib.hid E9
              clear E9
              go_wp2_with fail
              go_loopw [28] (fun i wr3 => ∃ j : Nat, j ≤ nR ∧ i = .int .i64 j ∧ Below W9.heap.size W9 wr3) (fun i _ => nR - (intOf i).toNat)
              case atStart => exact ⟨0, Nat.zero_le _, rfl, HE9.out⟩
              case round =>
                obtain ⟨j2, hj2, rfl, E10⟩ := hrel
                by_cases hlt2 : j2 < nR
                case neg =>
                  have d5 : decide ((j2 : Int) < (nR : Int)) = false := decide_eq_false (by omega)
                  have d6 : decide (j2 < nR) = false := decide_eq_false hlt2
                  have hfin := HN9.out.grow E10
                  have hex := hfin.ext
                  clear hfin E10
                  go_wp2_with fail
                  go_ret
                  exact ⟨rfl, hex⟩
                have d5 : decide ((j2 : Int) < (nR : Int)) = true := decide_eq_true (by omega)
                have d6 : decide (j2 < nR) = true := decide_eq_true hlt2
                have hjn : (j2 : Int) < (nR : Int) := by omega
                obtain ⟨x, hx⟩ : ∃ x, (restB x2 B)[j2]? = some x := ⟨_, List.getElem?_eq_getElem (by rw [HGL.out.2]; omega)⟩
                have hxm := List.mem_of_getElem? hx
                obtain ⟨ab, ao, rfl, hab, _⟩ := (R9.out).at E10 (by omega)
                obtain ⟨_, _, cl⟩ := bnums (R9.out.ext E10) hx
                have hxr := List.mem_filter.1 hxm
                have hlast := (HI0.out.ok x hxr.1).2.2.2
                have hpst : x2 - x.last < 100 := by
                  have h2 := hxr.2
                  unfold past life at h2
                  simp at h2
                  split at h2 <;> omega
                have wl : IntKind.i64.wrap (x2 - x.last) = x2 - x.last := IntWalk.i64_in _ (by omega)
                have dl : decide (100 ≤ x2 - x.last) = false := decide_eq_false (by omega)
                have wj : IntKind.i64.wrap ((j2 : Int) + 1) = (j2 : Int) + 1 := IntWalk.i64_in _ (by omega)
                have HE10 := Lib.hid E10
                clear hx hxm hxr hlast hpst E10
                go_wp2_with fail
                go_roundw
                case rel => exact ⟨j2 + 1, by omega, by go_num, HE10.out⟩
                case measure => simp [intOf] <;> omega
            have d3 : decide ((j : Int) < (nG : Int)) = true := decide_eq_true (by omega)
            have d4 : decide (j < nG) = true := decide_eq_true hlt
            have hjn : (j : Int) < (nG : Int) := by omega
            obtain ⟨x, hx⟩ : ∃ x, (outB x2 B)[j]? = some x := ⟨_, List.getElem?_eq_getElem (by rw [HGL.out.1]; omega)⟩
            have hxm := List.mem_of_getElem? hx
            have hxr := List.mem_filter.1 hxm
            have hlast := (HI0.out.ok x hxr.1).2.2.2
            have hpst : ¬ x2 - x.last < 30 := by
              have h2 := hxr.2
              unfold past life at h2
              simp at h2
              split at h2 <;> omega
            have wl : IntKind.i64.wrap (x2 - x.last) = x2 - x.last := IntWalk.i64_in _ (by omega)
            have dl : decide (x2 - x.last < 30) = false := decide_eq_false hpst
            have wj : IntKind.i64.wrap ((j : Int) + 1) = (j : Int) + 1 := IntWalk.i64_in _ (by omega)
            have hno : findF x.flow (restB x2 B) = none := by
              cases hf : findF x.flow (restB x2 B) with
              | none => rfl
              | some y =>
                obtain ⟨h1, h2⟩ := findF_some hf
                have h3 := List.mem_filter.1 h1
                have h4 := findF_of HI0.out.toInv0 h3.1
                have h5 := findF_of HI0.out.toInv0 hxr.1
                rw [h2, h5] at h4
                cases h4
                rw [hxr.2] at h3
                exact absurd h3.2 (by decide)
            have hbf : bFindQ x.flow (restB x2 B) = 4 := by
              unfold bFindQ
              rw [if_pos (okF_iff.2 (HI0.out.ok x hxr.1).1), hno]
              rfl
            obtain ⟨ab, ao, rfl, hab, _⟩ := (RG.out).at E9 (by omega)
            have lf := bflow (RG.out.ext E9) hx
            have HF := Lib.hid (find_any G _ (restB x2 B) x.flow wr (HN9.out.grow E9).tb)
            rw [hbf] at HF
            have HE9 := Lib.hid E9
            have HX := Lib.hid hx
            clear hx hxm hxr hlast hpst hno hbf E9
            go_wp2_with ((apply load_by rfl _ _ rfl _ rfl); (focus (with_reducible assumption)))
            refine HF.out.mono ?_
            rintro e W10 ⟨rfl, E10⟩
            generalize bFind x.flow (restB x2 B) = rb at *
            have KZ := Blk.new W10 53 #[.int .i64 0, .int .i64 0, .int .i64 0, .int .i64 0, .int .i64 0, .int .i64 0, .int .i64 0, .int .i64 0, .int .i64 0, .int .i64 0, .int .i64 0, .int .i64 0, .int .i64 0, .int .i64 0, .int .i64 0, .int .i64 0, .int .i64 0, .int .i64 0, .int .i64 0, .int .i64 0, .int .i64 0, .int .i64 0, .int .i64 0]
            have st := stoBd KZ rb
            have E11 : Ext W9 _ := ((HE9.out.trans (E10.mono HE9.out.size)).alloc (Nat.le_trans HE9.out.size E10.size) (.cells #[.int .i64 0, .int .i64 0, .int .i64 0, .int .i64 0, .int .i64 0, .int .i64 0, .int .i64 0, .int .i64 0, .int .i64 0, .int .i64 0, .int .i64 0, .int .i64 0, .int .i64 0, .int .i64 0, .int .i64 0, .int .i64 0, .int .i64 0, .int .i64 0, .int .i64 0, .int .i64 0, .int .i64 0, .int .i64 0, .int .i64 0] 53) |> fun h : Ext W9 _ => h).row (k := W10.heap.size) (Nat.le_trans HE9.out.size E10.size) rb.cells
            clear KZ HF lf E10
            go_wp2_with ((apply store_by rfl _ _ _ rfl _ rfl); (focus (with_reducible assumption)); (focus rfl))
            refine at_world (fun W => Ext W9 W) E11 ?_
            clear st E11
            rintro W11 E11
            refine (err_same 4 W11 (HG.out.below (HN9.out.grow E11).ext)).mono ?_
            rintro e W12 ⟨rfl, b12⟩
            have E12 : Ext W9 W12 := Ext.trans E11 b12
            obtain ⟨_, _, cl⟩ := bnums (RG.out.ext E12) HX.out
            have HE12 := Lib.hid E12
            clear E11 b12 E12
            go_wp2_with fail
            go_roundw
            case rel => exact ⟨j + 1, by omega, by go_num, HE12.out⟩
            case measure => simp [intOf] <;> omega
    have hkn : k < n1 := by omega
    have hk80 : k < 60 := by omega
    clear hend
    obtain ⟨st0, hst0⟩ : ∃ st0, l1[k]? = some st0 := ⟨_, List.getElem?_eq_getElem (by rw [HL.out.1]; omega)⟩
    have hIs := HI.out st0 (List.mem_of_getElem? hst0)
    obtain ⟨ba, oa, rfl, _, _⟩ := HL.out.at N.ext (by omega)
    have hkz : (k : Int) < (n1 : Int) := by omega
    have hk80' : (k : Int) < 60 := by omega
    have lda := (HL.out.ext N.ext).stp hst0
    have KZ := Blk.new wr 49 #[.int .i64 0, .int .i64 0, .int .i64 0, .int .i64 0, .int .i64 0, .int .i64 0, .int .i64 0, .int .i64 0, .int .i64 0, .int .i64 0, .int .i64 0, .int .i64 0, .int .i64 0, .int .i64 0, .int .i64 0, .int .i64 0, .int .i64 0, .int .i64 0, .int .i64 0, .int .i64 0, .int .i64 0, .int .i64 0, .int .i64 0, .int .i64 0, .int .i64 0, .int .i64 0, .int .i64 0, .int .i64 0, .int .i64 0, .int .i64 0, .int .i64 0]
    have sta := KZ.stpSet st0
    have K5 := KZ.row st0.cells
    have E5 : Ext wr _ := ((Ext.refl wr).alloc (.cells #[.int .i64 0, .int .i64 0, .int .i64 0, .int .i64 0, .int .i64 0, .int .i64 0, .int .i64 0, .int .i64 0, .int .i64 0, .int .i64 0, .int .i64 0, .int .i64 0, .int .i64 0, .int .i64 0, .int .i64 0, .int .i64 0, .int .i64 0, .int .i64 0, .int .i64 0, .int .i64 0, .int .i64 0, .int .i64 0, .int .i64 0, .int .i64 0, .int .i64 0, .int .i64 0, .int .i64 0, .int .i64 0, .int .i64 0, .int .i64 0, .int .i64 0] 49)).row (k := wr.heap.size) (Nat.le_refl _) st0.cells
    clear KZ N
    go_upto_region 15 with (first | ((apply load_by rfl _ _ rfl _ rfl); (focus (with_reducible assumption))) | ((apply store_by rfl _ _ _ rfl _ rfl); (focus (with_reducible assumption)); (focus rfl)))
    refine at_worldE (fun W => AP w W G n s B ∧ Blk W wr.heap.size 49 st0.cells) ⟨HN.out.grow E5, K5⟩ ?_
    clear lda sta K5 E5
    rintro W6 ⟨N6, K6⟩
    obtain ⟨cw, cn, cm, ct⟩ := K6.stpNums
    have lf := K6.stpFlow
    have HMK := Lib.hid (make_any G s B st0.flow st0.n st0.m st0.now W6 N6.tb)
    have HUS := Lib.hid (use_any G s B st0.n st0.now W6 N6.tb)
    have HEX := Lib.hid (expire_any G s B st0.now W6 N6.tb)
    have HN6 := Lib.hid N6
    clear N6 K6
    go_upto_block 2 with (fail)
    go_cut [] (fun wc => ∃ (s : PS) (B : List Bd), AP w wc G n s B)
    case first =>
      by_cases hw : st0.what = 0 ∨ st0.what = 1 ∨ st0.what = 2
      · have hb : ((st0.what == 0) = true) ∨ ((st0.what == 0) = false ∧ (st0.what == 1) = true) ∨ ((st0.what == 0) = false ∧ (st0.what == 1) = false ∧ (st0.what == 2) = true) := by rcases hw with h | h | h <;> rw [h] <;> decide
        clear hw
        rcases hb with hb | ⟨hb0, hb⟩ | ⟨hb0, hb1, hb⟩
        all_goals
          go_wp2_with ((apply load_by rfl _ _ rfl _ rfl); (focus (with_reducible assumption)))
          refine HMK.out.mono ?_
          rintro e W7 ⟨rfl, t7, k7⟩
          have N7 := HN6.out.make t7 k7
          clear t7 k7
          generalize (if bMakeQ st0.flow st0.n st0.m st0.now s B = 0 then newBd st0.flow st0.n st0.m st0.now s else zeroBd) = rb
          generalize erv (bMakeQ st0.flow st0.n st0.m st0.now s B) = ev
          go_wp2_with fail
          go_meet
          exact ⟨_, _, N7⟩
      · have e0 : (st0.what == 0) = false := by simp; omega
        have e1 : (st0.what == 1) = false := by simp; omega
        have e2 : (st0.what == 2) = false := by simp; omega
        by_cases h3 : st0.what = 3
        · have e3 : (st0.what == 3) = true := by rw [h3]; rfl
          clear hw h3
          go_wp2_with fail
          refine HUS.out.mono ?_
          rintro e W7 ⟨rfl, t7, k7⟩
          generalize erv (bUseQ st0.n st0.now B) = ev at *
          have N7 := HN6.out.turn t7 HN6.out.n k7
          clear t7 k7
          go_wp2_with fail
          go_meet
          exact ⟨_, _, N7⟩
        · have e3 : (st0.what == 3) = false := by simpa using h3
          by_cases h4 : st0.what = 4
          · have e4 : (st0.what == 4) = true := by rw [h4]; rfl
            clear hw h3 h4
            go_wp2_with fail
            refine HEX.out.mono ?_
            rintro e W7 ⟨v7, rfl, o7, t7, k7⟩
            have N7 := HN6.out.past t7 k7
            clear t7 k7 o7
            generalize erv (if okT st0.now = true then 0 else 1) = ev
            go_wp2_with fail
            go_meet
            exact ⟨_, _, N7⟩
          · have e4 : (st0.what == 4) = false := by simpa using h4
            clear hw h3 h4
            go_wp2_with fail
            go_meet
            exact ⟨_, _, HN6.out⟩
    obtain ⟨s', B', N7⟩ := hcut
    clear HN HMK HUS HEX HN6 cw cn cm ct lf hIs hst0
    go_wp2_with fail
    refine (all_any G s' B' wc N7.tb).mono ?_
    rintro e W8 ⟨v8, rfl, o8, E8⟩
    obtain ⟨a8, c8, rfl, hc8, r8, l8, p8⟩ := o8.open
    have hB' : B'.length ≤ 128 := by
      obtain ⟨l, cF, cN, ht, _⟩ := N7.tb.ex
      exact (Inv.range N7.tb.inv.toInv0 ht.prt.n1).2
    have HN8 := Lib.hid (N7.grow E8)
    have R8 := Lib.hid r8
    clear N7 E8 r8 l8 p8 o8
    obtain ⟨nB, hnB⟩ : ∃ nB, B'.length = nB := ⟨_, rfl⟩
    rw [hnB] at hc8 R8 hB' ⊢
    go_wp2_with fail
    go_loopw [17] (fun i wr => ∃ j : Nat, j ≤ nB ∧ i = .int .i64 j ∧ Ext W8 wr) (fun i _ => nB - (intOf i).toNat)
    case atStart => exact ⟨0, Nat.zero_le _, rfl, Ext.refl W8⟩
    case round =>
      obtain ⟨j, hj, rfl, E9⟩ := hrel
      by_cases hlt : j < nB
      case neg =>
        have d1 : decide ((j : Int) < (nB : Int)) = false := decide_eq_false (by omega)
        have d2 : decide (j < nB) = false := decide_eq_false hlt
        have HE9 := Lib.hid E9
        have wk : IntKind.i64.wrap ((k : Int) + 1) = (k : Int) + 1 := IntWalk.i64_in _ (by omega)
        clear E9
        go_wp2_with fail
        go_roundw
        case rel => exact ⟨k + 1, s', B', by omega, by omega, by go_num, HN8.out.grow HE9.out⟩
        case measure => simp [intOf] <;> omega
      have d1 : decide ((j : Int) < (nB : Int)) = true := decide_eq_true (by omega)
      have d2 : decide (j < nB) = true := decide_eq_true hlt
      have hjn : (j : Int) < (nB : Int) := by omega
      obtain ⟨x, hx⟩ : ∃ x, B'[j]? = some x := ⟨_, List.getElem?_eq_getElem (by omega)⟩
      have hxm := List.mem_of_getElem? hx
      have HI0 := HN8.out.tb.inv.toInv0
      have hbf : bFind x.flow B' = x ∧ bFindQ x.flow B' = 0 := by
        unfold bFind bFindQ
        rw [if_pos (okF_iff.2 (HI0.ok x hxm).1), if_pos (okF_iff.2 (HI0.ok x hxm).1), findF_of HI0 hxm]
        exact ⟨rfl, rfl⟩
      have hbn : bNear x.flow.kind x.near B' = some x := by
        unfold bNear
        rw [findN_of HI0 hxm]
        simp [Option.filter]
      obtain ⟨ab, ao, rfl, hab, _⟩ := (R8.out).at E9 (by omega)
      have lf := bflow (R8.out.ext E9) hx
      have HF := Lib.hid (find_any G s' B' x.flow wr (HN8.out.grow E9).tb)
      rw [hbf.1, hbf.2, erv_zero] at HF
      have HE9 := Lib.hid E9
      have HX := Lib.hid (And.intro hx (And.intro hxm hbn))
      clear hx hxm HI0 hbf hbn E9
      go_wp2_with ((apply load_by rfl _ _ rfl _ rfl); (focus (with_reducible assumption)))
      refine HF.out.mono ?_
      rintro e W10 ⟨rfl, E10⟩
      have KZ := Blk.new W10 53 #[.int .i64 0, .int .i64 0, .int .i64 0, .int .i64 0, .int .i64 0, .int .i64 0, .int .i64 0, .int .i64 0, .int .i64 0, .int .i64 0, .int .i64 0, .int .i64 0, .int .i64 0, .int .i64 0, .int .i64 0, .int .i64 0, .int .i64 0, .int .i64 0, .int .i64 0, .int .i64 0, .int .i64 0, .int .i64 0, .int .i64 0]
      have st := stoBd KZ x
      have K11 := KZ.row x.cells
      have E11 : Ext W8 _ := ((HE9.out.trans E10).alloc (.cells #[.int .i64 0, .int .i64 0, .int .i64 0, .int .i64 0, .int .i64 0, .int .i64 0, .int .i64 0, .int .i64 0, .int .i64 0, .int .i64 0, .int .i64 0, .int .i64 0, .int .i64 0, .int .i64 0, .int .i64 0, .int .i64 0, .int .i64 0, .int .i64 0, .int .i64 0, .int .i64 0, .int .i64 0, .int .i64 0, .int .i64 0] 53)).row (k := W10.heap.size) (by have := HE9.out.size; have := E10.size; omega) x.cells
      clear KZ HF lf E10
      go_upto_region 29 with (((apply store_by rfl _ _ _ rfl _ rfl); (focus (with_reducible assumption)); (focus rfl)))
      refine at_worldE (fun W => Ext W8 W ∧ Blk W W10.heap.size 53 x.cells) ⟨E11, K11⟩ ?_
      clear st K11 E11
      rintro W11 ⟨E11, K11⟩
      obtain ⟨ck, cn, _⟩ := bnums (R8.out.ext E11) HX.out.1
      have D11 := E11.drew
      have KD := Blk.drew K11
      have HN := Lib.hid (fun w' (E : Ext W8 w') => (show Calls Tryd.prog 26 #[.pointer (some ⟨G.gT, 0, none⟩), .int .i64 x.flow.kind, .int .i64 x.near] w' fun e w'' => e = .returned (.tuple #[x.v, .nilIface]) ∧ Ext w' w'' from by
        have := near_any G s' B' x.flow.kind x.near w' (HN8.out.grow E).tb
        rw [HX.out.2.2] at this
        exact this))
      have S0 : (fun w' => w'.cell? ⟨ab, ao + j * 23, none⟩ = some (.int .i64 x.flow.kind) ∧ w'.cell? ⟨ab, ao + j * 23 + 19, none⟩ = some (.int .i64 x.near)) W11.drew := ⟨ck, cn⟩
      refine wp_region_held_drew (S := (fun w' => w'.cell? ⟨ab, ao + j * 23, none⟩ = some (.int .i64 x.flow.kind) ∧ w'.cell? ⟨ab, ao + j * 23 + 19, none⟩ = some (.int .i64 x.near))) (by kernel_rfl) S0 (fun hS0 => ?_)
      clear S0 ck cn K11 E11
      generalize W11.drew = V at *
      (refine wpAnyH_take (i := 0) (v := ?_) rfl (by kernel_rfl) (by kernel_rfl) (by kernel_rfl) (fun _ _ _ h => h) (Or.inl ⟨by rfl, ?_⟩) (by assumption) ?_; rotate_left; focus (intro w hSw; (try dsimp only at hSw); go_simp; try with_reducible rfl); try simp only [Act.put, List.getElem_toArray, List.getElem_cons_succ, List.getElem_cons_zero, List.setIfInBounds_toArray, List.set_cons_zero, List.set_cons_succ])
      (refine wpAnyH_take (i := 1) (v := ?_) rfl (by kernel_rfl) (by kernel_rfl) (by kernel_rfl) (fun _ _ _ h => h) (Or.inl ⟨by rfl, ?_⟩) (by assumption) ?_; rotate_left; focus (intro w hSw; (try dsimp only at hSw); go_simp; try with_reducible rfl); try simp only [Act.put, List.getElem_toArray, List.getElem_cons_succ, List.getElem_cons_zero, List.setIfInBounds_toArray, List.set_cons_zero, List.set_cons_succ])
      (refine wpAnyH_take (i := 2) (v := ?_) rfl (by kernel_rfl) (by kernel_rfl) (by kernel_rfl) (fun _ _ _ h => h) (Or.inl ⟨by rfl, ?_⟩) (by assumption) ?_; rotate_left; focus (intro w hSw; (try dsimp only at hSw); go_simp; try with_reducible rfl); try simp only [Act.put, List.getElem_toArray, List.getElem_cons_succ, List.getElem_cons_zero, List.setIfInBounds_toArray, List.set_cons_zero, List.set_cons_succ])
      (refine wpAnyH_take (i := 3) (v := ?_) rfl (by kernel_rfl) (by kernel_rfl) (by kernel_rfl) (fun _ _ _ h => h) (Or.inl ⟨by rfl, ?_⟩) (by assumption) ?_; rotate_left; focus (intro w hSw; (try dsimp only at hSw); go_simp; try with_reducible rfl); try simp only [Act.put, List.getElem_toArray, List.getElem_cons_succ, List.getElem_cons_zero, List.setIfInBounds_toArray, List.set_cons_zero, List.set_cons_succ])
      (refine wpAnyH_take (i := 4) (v := ?_) rfl (by kernel_rfl) (by kernel_rfl) (by kernel_rfl) (fun _ _ _ h => h) (Or.inl ⟨by rfl, ?_⟩) (by assumption) ?_; rotate_left; focus (intro w hSw; (try dsimp only at hSw); go_simp; try with_reducible rfl); try simp only [Act.put, List.getElem_toArray, List.getElem_cons_succ, List.getElem_cons_zero, List.setIfInBounds_toArray, List.set_cons_zero, List.set_cons_succ])
      (refine wpAnyH_take (i := 5) (v := ?_) rfl (by kernel_rfl) (by kernel_rfl) (by kernel_rfl) (fun _ _ _ h => h) (Or.inl ⟨by rfl, ?_⟩) (by assumption) ?_; rotate_left; focus (intro w hSw; (try dsimp only at hSw); go_simp; try with_reducible rfl); try simp only [Act.put, List.getElem_toArray, List.getElem_cons_succ, List.getElem_cons_zero, List.setIfInBounds_toArray, List.set_cons_zero, List.set_cons_succ])
      (refine wpAnyH_take (i := 6) (v := ?_) rfl (by kernel_rfl) (by kernel_rfl) (by kernel_rfl) (fun _ _ _ h => h) (Or.inl ⟨by rfl, ?_⟩) (by assumption) ?_; rotate_left; focus (intro w hSw; (try dsimp only at hSw); go_simp; try with_reducible rfl); try simp only [Act.put, List.getElem_toArray, List.getElem_cons_succ, List.getElem_cons_zero, List.setIfInBounds_toArray, List.set_cons_zero, List.set_cons_succ])
      (refine wpAnyH_take (i := 7) (v := ?_) rfl (by kernel_rfl) (by kernel_rfl) (by kernel_rfl) (fun _ _ _ h => h) (Or.inl ⟨by rfl, ?_⟩) (by assumption) ?_; rotate_left; focus (intro w hSw; (try dsimp only at hSw); go_simp; try with_reducible rfl); try simp only [Act.put, List.getElem_toArray, List.getElem_cons_succ, List.getElem_cons_zero, List.setIfInBounds_toArray, List.set_cons_zero, List.set_cons_succ])
      (refine wpAnyH_take (i := 8) (v := ?_) rfl (by kernel_rfl) (by kernel_rfl) (by kernel_rfl) (fun _ _ _ h => h) (Or.inl ⟨by rfl, ?_⟩) (by assumption) ?_; rotate_left; focus (intro w hSw; (try dsimp only at hSw); go_simp; try with_reducible rfl); try simp only [Act.put, List.getElem_toArray, List.getElem_cons_succ, List.getElem_cons_zero, List.setIfInBounds_toArray, List.set_cons_zero, List.set_cons_succ])
      (refine wpAnyH_take (i := 9) (v := ?_) rfl (by kernel_rfl) (by kernel_rfl) (by kernel_rfl) (fun _ _ _ h => h) (Or.inl ⟨by rfl, ?_⟩) (by assumption) ?_; rotate_left; focus (intro w hSw; (try dsimp only at hSw); go_simp; try with_reducible rfl); try simp only [Act.put, List.getElem_toArray, List.getElem_cons_succ, List.getElem_cons_zero, List.setIfInBounds_toArray, List.set_cons_zero, List.set_cons_succ])
      (refine wpAnyH_take (i := 10) (v := ?_) rfl (by kernel_rfl) (by kernel_rfl) (by kernel_rfl) (fun _ _ _ h => h) (Or.inl ⟨by rfl, ?_⟩) (by assumption) ?_; rotate_left; focus (intro w hSw; (try dsimp only at hSw); go_simp; try with_reducible rfl); try simp only [Act.put, List.getElem_toArray, List.getElem_cons_succ, List.getElem_cons_zero, List.setIfInBounds_toArray, List.set_cons_zero, List.set_cons_succ])
      (refine wpAnyH_take (i := 11) (v := ?_) rfl (by kernel_rfl) (by kernel_rfl) (by kernel_rfl) (fun _ _ _ h => h) (Or.inl ⟨by rfl, ?_⟩) (by assumption) ?_; rotate_left; focus (intro w hSw; (try dsimp only at hSw); go_simp; try with_reducible rfl); try simp only [Act.put, List.getElem_toArray, List.getElem_cons_succ, List.getElem_cons_zero, List.setIfInBounds_toArray, List.set_cons_zero, List.set_cons_succ])
      (try simp only [Act.put, List.getElem_toArray, List.getElem_cons_succ, List.getElem_cons_zero, List.setIfInBounds_toArray, List.set_cons_zero, List.set_cons_succ])
      refine wpAnyH_ready (rs := [12, 16]) (by kernel_rfl) (by simp) ?_
      refine AllReadyH.cons rfl (fun K hK => ?_) (AllReadyH.cons rfl (fun K hK => ?_) AllReadyH.nil)
      · go_simp
        go_at_call 26
        refine (HN.out V D11).mono ?_
        rintro e V2 ⟨rfl, q2⟩
        have D12 := D11.trans q2
        have KD2 := KD.ext q2
        obtain ⟨c1, c2, _⟩ := bnums (R8.out.ext D12) HX.out.1
        refine hK.out _ _ ⟨c1, c2⟩ ?_
        clear hK K c1 c2 q2 D11 KD
        intro hS1
        (try simp only [Act.put, List.getElem_toArray, List.getElem_cons_succ, List.getElem_cons_zero, List.setIfInBounds_toArray, List.set_cons_zero, List.set_cons_succ])
        (refine wpAnyH_take (i := 13) (v := ?_) rfl (by kernel_rfl) (by kernel_rfl) (by kernel_rfl) (fun _ _ _ h => h) (Or.inl ⟨by rfl, ?_⟩) (by assumption) ?_; rotate_left; focus (intro w hSw; (try dsimp only at hSw); go_simp; try with_reducible rfl); try simp only [Act.put, List.getElem_toArray, List.getElem_cons_succ, List.getElem_cons_zero, List.setIfInBounds_toArray, List.set_cons_zero, List.set_cons_succ])
        (refine wpAnyH_take (i := 14) (v := ?_) rfl (by kernel_rfl) (by kernel_rfl) (by kernel_rfl) (fun _ _ _ h => h) (Or.inl ⟨by rfl, ?_⟩) (by assumption) ?_; rotate_left; focus (intro w hSw; (try dsimp only at hSw); go_simp; try with_reducible rfl); try simp only [Act.put, List.getElem_toArray, List.getElem_cons_succ, List.getElem_cons_zero, List.setIfInBounds_toArray, List.set_cons_zero, List.set_cons_succ])
        (refine wpAnyH_take (i := 15) (v := ?_) rfl (by kernel_rfl) (by kernel_rfl) (by kernel_rfl) (fun _ _ _ h => h) (Or.inl ⟨by rfl, ?_⟩) (by assumption) ?_; rotate_left; focus (intro w hSw; (try dsimp only at hSw); go_simp; try with_reducible rfl); try simp only [Act.put, List.getElem_toArray, List.getElem_cons_succ, List.getElem_cons_zero, List.setIfInBounds_toArray, List.set_cons_zero, List.set_cons_succ])
        (refine wpAnyH_ready (rs := [16]) (by kernel_rfl) (by simp) ?_; refine AllReadyH.cons rfl (fun K hK => ?_) AllReadyH.nil)
        go_simp
        have KG := Blk.new V2 53 #[.int .i64 0, .int .i64 0, .int .i64 0, .int .i64 0, .int .i64 0, .int .i64 0, .int .i64 0, .int .i64 0, .int .i64 0, .int .i64 0, .int .i64 0, .int .i64 0, .int .i64 0, .int .i64 0, .int .i64 0, .int .i64 0, .int .i64 0, .int .i64 0, .int .i64 0, .int .i64 0, .int .i64 0, .int .i64 0, .int .i64 0]
        have D13 := D12.alloc (.cells #[.int .i64 0, .int .i64 0, .int .i64 0, .int .i64 0, .int .i64 0, .int .i64 0, .int .i64 0, .int .i64 0, .int .i64 0, .int .i64 0, .int .i64 0, .int .i64 0, .int .i64 0, .int .i64 0, .int .i64 0, .int .i64 0, .int .i64 0, .int .i64 0, .int .i64 0, .int .i64 0, .int .i64 0, .int .i64 0, .int .i64 0] 53)
        have KD3 := KD2.alloc (.cells #[.int .i64 0, .int .i64 0, .int .i64 0, .int .i64 0, .int .i64 0, .int .i64 0, .int .i64 0, .int .i64 0, .int .i64 0, .int .i64 0, .int .i64 0, .int .i64 0, .int .i64 0, .int .i64 0, .int .i64 0, .int .i64 0, .int .i64 0, .int .i64 0, .int .i64 0, .int .i64 0, .int .i64 0, .int .i64 0, .int .i64 0] 53)
        obtain ⟨c1, c2, _⟩ := bnums (R8.out.ext D13) HX.out.1
        refine hK.out _ _ ⟨c1, c2⟩ ?_
        have hge : W8.heap.size ≤ V2.heap.size := D12.size
        have hgd : W10.heap.size ≠ V2.heap.size := by have := KD2.lt; omega
        clear hK K c1 c2 D12 KD2
        intro hS2
        generalize V2.alloc (.cells #[.int .i64 0, .int .i64 0, .int .i64 0, .int .i64 0, .int .i64 0, .int .i64 0, .int .i64 0, .int .i64 0, .int .i64 0, .int .i64 0, .int .i64 0, .int .i64 0, .int .i64 0, .int .i64 0, .int .i64 0, .int .i64 0, .int .i64 0, .int .i64 0, .int .i64 0, .int .i64 0, .int .i64 0, .int .i64 0, .int .i64 0] 53) = V3 at *
        generalize V2.heap.size = g at *
        (try simp only [Act.put, List.getElem_toArray, List.getElem_cons_succ, List.getElem_cons_zero, List.setIfInBounds_toArray, List.set_cons_zero, List.set_cons_succ])
        (refine wpAnyH_ready (rs := [17]) (by kernel_rfl) (by simp) ?_; refine AllReadyH.cons rfl (fun K hK => ?_) AllReadyH.nil)
        rw [if_pos (by rfl)]
        refine wp_store_at _ _ _ rfl _ rfl (stoBd KG x) rfl ?_
        have KH := KG.row x.cells
        have D14 := D13.row hge x.cells
        have KD4 := KD3.farRow hgd x.cells
        obtain ⟨c3, c4, _⟩ := bnums (R8.out.ext D14) HX.out.1
        refine hK.out _ _ ⟨c3, c4⟩ ?_
        clear hK K c3 c4 KG D13 KD3
        intro hS3
        (try simp only [Act.put, List.getElem_toArray, List.getElem_cons_succ, List.getElem_cons_zero])
        (refine wpAnyH_take (i := 18) (v := ?_) rfl (by kernel_rfl) (by kernel_rfl) (by kernel_rfl) (fun _ _ _ h => h) (Or.inl ⟨by rfl, ?_⟩) (by assumption) ?_; rotate_left; focus (intro w hSw; (try dsimp only at hSw); go_simp; try with_reducible rfl); try simp only [Act.put, List.getElem_toArray, List.getElem_cons_succ, List.getElem_cons_zero, List.setIfInBounds_toArray, List.set_cons_zero, List.set_cons_succ])
        (try simp only [Act.put, List.getElem_toArray, List.getElem_cons_succ, List.getElem_cons_zero, List.setIfInBounds_toArray, List.set_cons_zero, List.set_cons_succ])
        refine wpAnyH_done (by kernel_rfl) ?_ _
        clear hS3 hS2 hS1 hS0 HN
        generalize V3.setRow g x.cells = W13 at *
        have D := D14
        have KA := KD4
        have KC := KH
        clear D14 KD4 KH
        obtain ⟨ck, cn, _⟩ := bnums (R8.out.ext D) HX.out.1
        have la := Lib.hid (fun m => loaBd (KA.drewN m))
        have lb := Lib.hid (fun m => (R8.out.ext (D.drewN m)).bind HX.out.1)
        have lc := Lib.hid (fun m => loaBd (KC.drewN m))
        have le : ∀ W, (Op.equalIn 10000 53 (.agg x.cells) (.agg x.cells)).run Tryd.prog W = .ok true W := fun W => by rw [run_bdEq, (bdEq_iff x x).2 rfl]
        have HD := Lib.hid D
        have wj : IntKind.i64.wrap ((j : Int) + 1) = (j : Int) + 1 := IntWalk.i64_in _ (by omega)
        clear D KA KC ck
        by_cases h0 : j = 0
        · subst h0
          clear cn
          go_wp2_with fail
          refine wp_region_quiet_lit (by kernel_rfl) (by kernel_rfl) ?_; repeat (go_big_quiet_step (fail))
          go_big_quiet_want; refine quiet_ld _ _ rfl rfl (by rintro _ ⟨m, rfl⟩; exact la.out m) ?_; go_big_quiet_on; (try simp only [Act.put, List.setIfInBounds_toArray, List.set_cons_zero, List.set_cons_succ]); repeat (go_big_quiet_step (fail))
          go_big_quiet_want; refine quiet_ld _ _ rfl rfl (by rintro _ ⟨m, rfl⟩; exact lb.out m) ?_; go_big_quiet_on; (try simp only [Act.put, List.setIfInBounds_toArray, List.set_cons_zero, List.set_cons_succ]); repeat (go_big_quiet_step (fail))
          go_big_quiet_want; refine quiet_ld _ _ rfl rfl (by rintro _ ⟨m, rfl⟩; exact lc.out m) ?_; go_big_quiet_on; (try simp only [Act.put, List.setIfInBounds_toArray, List.set_cons_zero, List.set_cons_succ]); repeat (go_big_quiet_step (fail))
          go_big_quiet_want; refine quiet_ld _ _ rfl rfl (by rintro _ ⟨m, rfl⟩; exact lb.out m) ?_; go_big_quiet_on; (try simp only [Act.put, List.setIfInBounds_toArray, List.set_cons_zero, List.set_cons_succ]); repeat (go_big_quiet_step (fail))
          refine wpQuiet_nil ?_; intro _ hw'; obtain ⟨nq, hw''⟩ := hw'; subst hw''
          clear la lb lc
          go_wp2_with fail
          go_roundw
          case rel => exact ⟨0 + 1, by omega, by go_num, HD.out.drewN _⟩
          case measure => simp [intOf] <;> omega
        · obtain ⟨i, hi⟩ : ∃ i, j = i + 1 := ⟨j - 1, by omega⟩
          obtain ⟨y, hy⟩ : ∃ y, B'[i]? = some y := ⟨_, List.getElem?_eq_getElem (by omega)⟩
          obtain ⟨_, cy, _⟩ := bnums (R8.out.ext HD.out) hy
          have hlt2 : y.near < x.near := by
            have hs := HN8.out.tb.inv.sorted
            rw [List.pairwise_iff_getElem] at hs
            have h1 := hs i j (by omega) (by omega) (by omega)
            have hx2 := HX.out.1
            rw [List.getElem?_eq_getElem (by omega)] at hy hx2
            rw [Option.some.inj hy, Option.some.inj hx2] at h1
            exact h1
          have dj : decide ((0 : Int) < (j : Int)) = true := decide_eq_true (by omega)
          have dj' : decide (0 < j) = true := decide_eq_true (by omega)
          have wi : IntKind.i64.wrap ((j : Int) - 1) = (i : Int) := by rw [IntWalk.i64_in _ (by omega)]; omega
          have hin : (i : Int) < (nB : Int) := by omega
          have dl : decide (x.near ≤ y.near) = false := decide_eq_false (by omega)
          clear hy hi h0
          go_wp2_with fail
          refine wp_region_quiet_lit (by kernel_rfl) (by kernel_rfl) ?_; repeat (go_big_quiet_step (fail))
          go_big_quiet_want; refine quiet_ld _ _ rfl rfl (by rintro _ ⟨m, rfl⟩; exact la.out m) ?_; go_big_quiet_on; (try simp only [Act.put, List.setIfInBounds_toArray, List.set_cons_zero, List.set_cons_succ]); repeat (go_big_quiet_step (fail))
          go_big_quiet_want; refine quiet_ld _ _ rfl rfl (by rintro _ ⟨m, rfl⟩; exact lb.out m) ?_; go_big_quiet_on; (try simp only [Act.put, List.setIfInBounds_toArray, List.set_cons_zero, List.set_cons_succ]); repeat (go_big_quiet_step (fail))
          go_big_quiet_want; refine quiet_ld _ _ rfl rfl (by rintro _ ⟨m, rfl⟩; exact lc.out m) ?_; go_big_quiet_on; (try simp only [Act.put, List.setIfInBounds_toArray, List.set_cons_zero, List.set_cons_succ]); repeat (go_big_quiet_step (fail))
          go_big_quiet_want; refine quiet_ld _ _ rfl rfl (by rintro _ ⟨m, rfl⟩; exact lb.out m) ?_; go_big_quiet_on; (try simp only [Act.put, List.setIfInBounds_toArray, List.set_cons_zero, List.set_cons_succ]); repeat (go_big_quiet_step (fail))
          refine wpQuiet_nil ?_; intro _ hw'; obtain ⟨nq, hw''⟩ := hw'; subst hw''
          clear la lb lc cn cy
          go_wp2_with fail
          go_roundw
          case rel => exact ⟨j + 1, by omega, by go_num, HD.out.drewN _⟩
          case measure => simp [intOf] <;> omega
      · go_simp
        have KG := Blk.new V 53 #[.int .i64 0, .int .i64 0, .int .i64 0, .int .i64 0, .int .i64 0, .int .i64 0, .int .i64 0, .int .i64 0, .int .i64 0, .int .i64 0, .int .i64 0, .int .i64 0, .int .i64 0, .int .i64 0, .int .i64 0, .int .i64 0, .int .i64 0, .int .i64 0, .int .i64 0, .int .i64 0, .int .i64 0, .int .i64 0, .int .i64 0]
        have D12 := D11.alloc (.cells #[.int .i64 0, .int .i64 0, .int .i64 0, .int .i64 0, .int .i64 0, .int .i64 0, .int .i64 0, .int .i64 0, .int .i64 0, .int .i64 0, .int .i64 0, .int .i64 0, .int .i64 0, .int .i64 0, .int .i64 0, .int .i64 0, .int .i64 0, .int .i64 0, .int .i64 0, .int .i64 0, .int .i64 0, .int .i64 0, .int .i64 0] 53)
        have KD2 := KD.alloc (.cells #[.int .i64 0, .int .i64 0, .int .i64 0, .int .i64 0, .int .i64 0, .int .i64 0, .int .i64 0, .int .i64 0, .int .i64 0, .int .i64 0, .int .i64 0, .int .i64 0, .int .i64 0, .int .i64 0, .int .i64 0, .int .i64 0, .int .i64 0, .int .i64 0, .int .i64 0, .int .i64 0, .int .i64 0, .int .i64 0, .int .i64 0] 53)
        obtain ⟨c1, c2, _⟩ := bnums (R8.out.ext D12) HX.out.1
        refine hK.out _ _ ⟨c1, c2⟩ ?_
        have hge : W8.heap.size ≤ V.heap.size := D11.size
        have hgd : W10.heap.size ≠ V.heap.size := by have := KD.lt; omega
        clear hK K c1 c2 D11 KD
        intro hS1
        generalize V.alloc (.cells #[.int .i64 0, .int .i64 0, .int .i64 0, .int .i64 0, .int .i64 0, .int .i64 0, .int .i64 0, .int .i64 0, .int .i64 0, .int .i64 0, .int .i64 0, .int .i64 0, .int .i64 0, .int .i64 0, .int .i64 0, .int .i64 0, .int .i64 0, .int .i64 0, .int .i64 0, .int .i64 0, .int .i64 0, .int .i64 0, .int .i64 0] 53) = V3 at *
        generalize V.heap.size = g at *
        (try simp only [Act.put, List.getElem_toArray, List.getElem_cons_succ, List.getElem_cons_zero, List.setIfInBounds_toArray, List.set_cons_zero, List.set_cons_succ])
        (refine wpAnyH_ready (rs := [12]) (by kernel_rfl) (by simp) ?_; refine AllReadyH.cons rfl (fun K hK => ?_) AllReadyH.nil)
        go_simp
        go_at_call 26
        refine (HN.out V3 D12).mono ?_
        rintro e V2 ⟨rfl, q2⟩
        have D13 := D12.trans q2
        have KD3 := KD2.ext q2
        replace KG := KG.ext q2
        obtain ⟨c1, c2, _⟩ := bnums (R8.out.ext D13) HX.out.1
        refine hK.out _ _ ⟨c1, c2⟩ ?_
        clear hK K c1 c2 q2 D12 KD2
        intro hS2
        (try simp only [Act.put, List.getElem_toArray, List.getElem_cons_succ, List.getElem_cons_zero, List.setIfInBounds_toArray, List.set_cons_zero, List.set_cons_succ])
        (refine wpAnyH_take (i := 13) (v := ?_) rfl (by kernel_rfl) (by kernel_rfl) (by kernel_rfl) (fun _ _ _ h => h) (Or.inl ⟨by rfl, ?_⟩) (by assumption) ?_; rotate_left; focus (intro w hSw; (try dsimp only at hSw); go_simp; try with_reducible rfl); try simp only [Act.put, List.getElem_toArray, List.getElem_cons_succ, List.getElem_cons_zero, List.setIfInBounds_toArray, List.set_cons_zero, List.set_cons_succ])
        (refine wpAnyH_take (i := 14) (v := ?_) rfl (by kernel_rfl) (by kernel_rfl) (by kernel_rfl) (fun _ _ _ h => h) (Or.inl ⟨by rfl, ?_⟩) (by assumption) ?_; rotate_left; focus (intro w hSw; (try dsimp only at hSw); go_simp; try with_reducible rfl); try simp only [Act.put, List.getElem_toArray, List.getElem_cons_succ, List.getElem_cons_zero, List.setIfInBounds_toArray, List.set_cons_zero, List.set_cons_succ])
        (refine wpAnyH_take (i := 15) (v := ?_) rfl (by kernel_rfl) (by kernel_rfl) (by kernel_rfl) (fun _ _ _ h => h) (Or.inl ⟨by rfl, ?_⟩) (by assumption) ?_; rotate_left; focus (intro w hSw; (try dsimp only at hSw); go_simp; try with_reducible rfl); try simp only [Act.put, List.getElem_toArray, List.getElem_cons_succ, List.getElem_cons_zero, List.setIfInBounds_toArray, List.set_cons_zero, List.set_cons_succ])
        (try simp only [Act.put, List.getElem_toArray, List.getElem_cons_succ, List.getElem_cons_zero, List.setIfInBounds_toArray, List.set_cons_zero, List.set_cons_succ])
        (refine wpAnyH_ready (rs := [17]) (by kernel_rfl) (by simp) ?_; refine AllReadyH.cons rfl (fun K hK => ?_) AllReadyH.nil)
        rw [if_pos (by rfl)]
        refine wp_store_at _ _ _ rfl _ rfl (stoBd KG x) rfl ?_
        have KH := KG.row x.cells
        have D14 := D13.row hge x.cells
        have KD4 := KD3.farRow hgd x.cells
        obtain ⟨c3, c4, _⟩ := bnums (R8.out.ext D14) HX.out.1
        refine hK.out _ _ ⟨c3, c4⟩ ?_
        clear hK K c3 c4 KG D13 KD3
        intro hS3
        (try simp only [Act.put, List.getElem_toArray, List.getElem_cons_succ, List.getElem_cons_zero])
        (refine wpAnyH_take (i := 18) (v := ?_) rfl (by kernel_rfl) (by kernel_rfl) (by kernel_rfl) (fun _ _ _ h => h) (Or.inl ⟨by rfl, ?_⟩) (by assumption) ?_; rotate_left; focus (intro w hSw; (try dsimp only at hSw); go_simp; try with_reducible rfl); try simp only [Act.put, List.getElem_toArray, List.getElem_cons_succ, List.getElem_cons_zero, List.setIfInBounds_toArray, List.set_cons_zero, List.set_cons_succ])
        (try simp only [Act.put, List.getElem_toArray, List.getElem_cons_succ, List.getElem_cons_zero, List.setIfInBounds_toArray, List.set_cons_zero, List.set_cons_succ])
        refine wpAnyH_done (by kernel_rfl) ?_ _
        clear hS3 hS2 hS1 hS0 HN
        generalize V2.setRow g x.cells = W13 at *
        have D := D14
        have KA := KD4
        have KC := KH
        clear D14 KD4 KH
        obtain ⟨ck, cn, _⟩ := bnums (R8.out.ext D) HX.out.1
        have la := Lib.hid (fun m => loaBd (KA.drewN m))
        have lb := Lib.hid (fun m => (R8.out.ext (D.drewN m)).bind HX.out.1)
        have lc := Lib.hid (fun m => loaBd (KC.drewN m))
        have le : ∀ W, (Op.equalIn 10000 53 (.agg x.cells) (.agg x.cells)).run Tryd.prog W = .ok true W := fun W => by rw [run_bdEq, (bdEq_iff x x).2 rfl]
        have HD := Lib.hid D
        have wj : IntKind.i64.wrap ((j : Int) + 1) = (j : Int) + 1 := IntWalk.i64_in _ (by omega)
        clear D KA KC ck
        by_cases h0 : j = 0
        · subst h0
          clear cn
          go_wp2_with fail
          refine wp_region_quiet_lit (by kernel_rfl) (by kernel_rfl) ?_; repeat (go_big_quiet_step (fail))
          go_big_quiet_want; refine quiet_ld _ _ rfl rfl (by rintro _ ⟨m, rfl⟩; exact la.out m) ?_; go_big_quiet_on; (try simp only [Act.put, List.setIfInBounds_toArray, List.set_cons_zero, List.set_cons_succ]); repeat (go_big_quiet_step (fail))
          go_big_quiet_want; refine quiet_ld _ _ rfl rfl (by rintro _ ⟨m, rfl⟩; exact lb.out m) ?_; go_big_quiet_on; (try simp only [Act.put, List.setIfInBounds_toArray, List.set_cons_zero, List.set_cons_succ]); repeat (go_big_quiet_step (fail))
          go_big_quiet_want; refine quiet_ld _ _ rfl rfl (by rintro _ ⟨m, rfl⟩; exact lc.out m) ?_; go_big_quiet_on; (try simp only [Act.put, List.setIfInBounds_toArray, List.set_cons_zero, List.set_cons_succ]); repeat (go_big_quiet_step (fail))
          go_big_quiet_want; refine quiet_ld _ _ rfl rfl (by rintro _ ⟨m, rfl⟩; exact lb.out m) ?_; go_big_quiet_on; (try simp only [Act.put, List.setIfInBounds_toArray, List.set_cons_zero, List.set_cons_succ]); repeat (go_big_quiet_step (fail))
          refine wpQuiet_nil ?_; intro _ hw'; obtain ⟨nq, hw''⟩ := hw'; subst hw''
          clear la lb lc
          go_wp2_with fail
          go_roundw
          case rel => exact ⟨0 + 1, by omega, by go_num, HD.out.drewN _⟩
          case measure => simp [intOf] <;> omega
        · obtain ⟨i, hi⟩ : ∃ i, j = i + 1 := ⟨j - 1, by omega⟩
          obtain ⟨y, hy⟩ : ∃ y, B'[i]? = some y := ⟨_, List.getElem?_eq_getElem (by omega)⟩
          obtain ⟨_, cy, _⟩ := bnums (R8.out.ext HD.out) hy
          have hlt2 : y.near < x.near := by
            have hs := HN8.out.tb.inv.sorted
            rw [List.pairwise_iff_getElem] at hs
            have h1 := hs i j (by omega) (by omega) (by omega)
            have hx2 := HX.out.1
            rw [List.getElem?_eq_getElem (by omega)] at hy hx2
            rw [Option.some.inj hy, Option.some.inj hx2] at h1
            exact h1
          have dj : decide ((0 : Int) < (j : Int)) = true := decide_eq_true (by omega)
          have dj' : decide (0 < j) = true := decide_eq_true (by omega)
          have wi : IntKind.i64.wrap ((j : Int) - 1) = (i : Int) := by rw [IntWalk.i64_in _ (by omega)]; omega
          have hin : (i : Int) < (nB : Int) := by omega
          have dl : decide (x.near ≤ y.near) = false := decide_eq_false (by omega)
          clear hy hi h0
          go_wp2_with fail
          refine wp_region_quiet_lit (by kernel_rfl) (by kernel_rfl) ?_; repeat (go_big_quiet_step (fail))
          go_big_quiet_want; refine quiet_ld _ _ rfl rfl (by rintro _ ⟨m, rfl⟩; exact la.out m) ?_; go_big_quiet_on; (try simp only [Act.put, List.setIfInBounds_toArray, List.set_cons_zero, List.set_cons_succ]); repeat (go_big_quiet_step (fail))
          go_big_quiet_want; refine quiet_ld _ _ rfl rfl (by rintro _ ⟨m, rfl⟩; exact lb.out m) ?_; go_big_quiet_on; (try simp only [Act.put, List.setIfInBounds_toArray, List.set_cons_zero, List.set_cons_succ]); repeat (go_big_quiet_step (fail))
          go_big_quiet_want; refine quiet_ld _ _ rfl rfl (by rintro _ ⟨m, rfl⟩; exact lc.out m) ?_; go_big_quiet_on; (try simp only [Act.put, List.setIfInBounds_toArray, List.set_cons_zero, List.set_cons_succ]); repeat (go_big_quiet_step (fail))
          go_big_quiet_want; refine quiet_ld _ _ rfl rfl (by rintro _ ⟨m, rfl⟩; exact lb.out m) ?_; go_big_quiet_on; (try simp only [Act.put, List.setIfInBounds_toArray, List.set_cons_zero, List.set_cons_succ]); repeat (go_big_quiet_step (fail))
          refine wpQuiet_nil ?_; intro _ hw'; obtain ⟨nq, hw''⟩ := hw'; subst hw''
          clear la lb lc cn cy
          go_wp2_with fail
          go_roundw
          case rel => exact ⟨j + 1, by omega, by go_num, HD.out.drewN _⟩
          case measure => simp [intOf] <;> omega
set_option maxRecDepth 100000 in
theorem lifted (os : Os) (started : os.Started) (H : Type) (enc : TypeId × Value → H) :
    ReturnsInHanded {} Tryd.checked os 5 .any (fun w args => (Rows.bindApartSpec.pre enc Tryd.prog Tryd.f5 [] false w args ∧ laidMetH Tryd.prog laid w) ∧ sizedMet enc Tryd.prog Tryd.f5 (OpenSpec.ofChange Rows.bindApartSpec) false w args)
      (Rows.bindApartSpec.post enc Tryd.prog Tryd.f5 false true false false) := by
  refine returnsInHanded_of_change_and (C := Tryd.checked) (X := fun w _ => laidMetH Tryd.prog laid w) (fun _ _ _ hh h => h.of_heap hh) own started (by kernel_rfl) Tryd.func5
    (ChangeSpec.witness_at (enc := enc) (C := Tryd.checked) (os := os) (X := fun w _ => laidMetH Tryd.prog laid w) false (laidWorld os) #[.int .i64 0, .slice none 0 0, .int .i64 0] 8 rfl (by kernel_rfl) (by kernel_rfl) (by kernel_rfl) (by kernel_rfl) (by kernel_rfl) (laidWorld_met os _)) ?_
  intro W base args ds gs before hval0 hW _ _ hL _
  have hval : ∀ (j : Nat) t v, Tryd.f5.params[j]? = some t → args[j]? = some v → Value.okWide Tryd.prog W .any base t v := hval0
  have hW' := hW
  obtain ⟨p, q, hA0, hV0, rfl, hfz, hnd⟩ := hW
  have hA : DataW.TrodAll enc Tryd.prog W 0 (fun _ => true) true Tryd.f5.params.toList args.toList ds p := hA0
  have hV : DataW.TrodVars enc Tryd.prog W (fun _ => true) [] gs q := hV0
  have hg := handle_of_laid hL
  rw [Tryd.params5] at hA hval
  obtain ⟨v0, vs0, d0, ds0, p0, q0, hargs, rfl, rfl, h0, r0⟩ := trodAll_cons hA
  obtain ⟨v1, vs1, d1, ds1, p1, q1, rfl, rfl, rfl, h1, r1⟩ := trodAll_cons r0
  obtain ⟨v2, vs2, d2, ds2, p2, q2, rfl, rfl, rfl, h2, r2⟩ := trodAll_cons r1
  obtain ⟨rfl, rfl, rfl⟩ := trodAll_nil r2
  obtain rfl : args = #[v0, v1, v2] := by cases args; simp_all
  obtain ⟨rfl, rfl⟩ := vars_nil hV
  have lt0 : ∀ x ∈ p0, x.block < W.heap.size := by obtain ⟨m, hm⟩ := h0; exact DataW.trod_lt m _ _ _ hm
  have k0 := h0
  obtain ⟨x0, rfl, _, _, w0'⟩ := open_int Tryd.underlying3 (hval 0 3 v0 rfl rfl) h0
  have w0 : IsInt x0 := wf_i64 w0'
  have lt1 : ∀ x ∈ p1, x.block < W.heap.size := by obtain ⟨m, hm⟩ := h1; exact DataW.trod_lt m _ _ _ hm
  have k1 := h1
  obtain ⟨a1, n1, c1, rfl⟩ := okWide_slice Tryd.underlying40 (hval 1 40 v1 rfl rfl)
  obtain ⟨l1, w1⟩ := open_steps h1
  have lt2 : ∀ x ∈ p2, x.block < W.heap.size := by obtain ⟨m, hm⟩ := h2; exact DataW.trod_lt m _ _ _ hm
  have k2 := h2
  obtain ⟨x2, rfl, _, _, w2'⟩ := open_int Tryd.underlying3 (hval 2 3 v2 rfl rfl) h2
  have w2 : IsInt x2 := wf_i64 w2'
  clear hA0 hval0
  refine (walk x0 a1 n1 c1 l1 x2 W hg w0 w1 w2).mono fun e W' ⟨he, bel⟩ => ?_
  subst he
  exact ⟨_, rfl, _, _, _, [], _, [], hW', trodAll_mk1 (shut_bool Tryd.underlying4 _), (trodAll_cons_mk (Below.trod laidOut (by kernel_rfl) (of_decide_eq_true (by kernel_rfl)) k0 bel lt0) (trodAll_cons_mk (Below.trod laidOut (by kernel_rfl) (of_decide_eq_true (by kernel_rfl)) k1 bel lt1) (trodAll_cons_mk (Below.trod laidOut (by kernel_rfl) (of_decide_eq_true (by kernel_rfl)) k2 bel lt2) trodAll_mk0))), rfl, bel.frame _, fun h => by cases h⟩

theorem over : Rows.bindApartRow.holds Tryd.pinned (OpenSpec.ofChange Rows.bindApartSpec) :=
  OpenClaim.holds_of_wide 5 Tryd.f5 rfl rfl rfl rfl rfl rfl rfl ⟨rfl, rfl, rfl, rfl, rfl⟩ rfl rfl rfl rfl rfl (by kernel_rfl) Tryd.func5 (by kernel_rfl)
    (of_decide_eq_true (by kernel_rfl)) (by unfold Func.isWrapper; first | (rw [if_pos (by decide +kernel)]; kernel_rfl) | (rw [if_neg (by decide +kernel)]; exact ⟨rfl, rfl⟩))
    (fun os started H enc _ => lifted os started H enc)

/-- THE STATEMENT. -/
theorem proved : Rows.BindApartCardSaid :=
  Claim7.holds_tied_plain_at .later [] _ _ _ _
    over (fun _ h => by cases h) (by kernel_rfl) (fun _ h => by cases h) bindApart_row_tie rfl ⟨rfl, rfl⟩ (by kernel_rfl) rfl
    (fun f fn hf hfn => by
      obtain rfl : f = 5 := Option.some.inj ((show Tryd.prog.funcNamed "gangplank/gangplanklaw2.BindApart" = some 5 by kernel_rfl).symm.trans hf) |>.symm
      obtain rfl : fn = Tryd.f5 := (Option.some.inj (Tryd.func5.symm.trans hfn)).symm
      exact ⟨by kernel_rfl, fun j t ht => by
        rw [Tryd.params5] at ht
        have hall : ((#[3, 40, 3] : Array Nat).all fun t => !Tryd.prog.wantsStandIn t) = true := by kernel_rfl
        have := Array.all_eq_true'.1 hall t (Array.mem_of_getElem? ht)
        show Tryd.prog.wantsStandIn t = false
        simpa using this⟩)
    (by kernel_rfl)
#print axioms proved
end Go.Proofs.YtefdhlmljocnkaaDoor.bindApart
