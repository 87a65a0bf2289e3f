/- Lemmas of this seat, bound together: BackOwn MapE Open Pack6s. Conditions: as each lemma states them. -/
import Derived.Test.YtbjogkpepfgegaaDoorK02
import Derived.Test.YtbjogkpepfgegaaDoorK04
import Derived.Test.YtbjogkpepfgegaaDoorK00
import Derived.Test.YtbjogkpepfgegaaDoorK06
import Derived.Test.YtbjogkpepfgegaaDoorK03
namespace Go.Proofs.YtbjogkpepfgegaaDoor
open Go.RowKit

def bkcells (bs : List Pl.Back) : List Value := bs.flatMap fun b => [.int .i64 b.id, .int .i64 b.addr, .int .i64 b.door, .int .i64 b.weight, .bool b.up, .bool b.drain]
theorem bkcells_length (bs : List Pl.Back) : (bkcells bs).length = bs.length * 6 := by
  induction bs with
  | nil => rfl
  | cons b r ih => unfold bkcells at *; rw [List.flatMap_cons, List.length_append, ih]; simp; omega
theorem bkcells_append (xs ys : List Pl.Back) : bkcells xs ++ bkcells ys = bkcells (xs ++ ys) := by simp [bkcells]
theorem bkcells_at (bs : List Pl.Back) : ∀ (i r : Nat), i < bs.length → r < 6 → (bkcells bs)[i * 6 + r]? = [.int .i64 (bs.getD i Pl.back0).id, .int .i64 (bs.getD i Pl.back0).addr, .int .i64 (bs.getD i Pl.back0).door, .int .i64 (bs.getD i Pl.back0).weight, .bool (bs.getD i Pl.back0).up, .bool (bs.getD i Pl.back0).drain][r]? := by
  induction bs with
  | nil => intro i r hi; simp at hi
  | cons b t ih =>
    intro i r hi hr
    have e : bkcells (b :: t) = [.int .i64 b.id, .int .i64 b.addr, .int .i64 b.door, .int .i64 b.weight, .bool b.up, .bool b.drain] ++ bkcells t := by simp [bkcells]
    rw [e]
    cases i with
    | zero =>
      rw [List.getElem?_append_left (by simp; omega)]
      simp
    | succ i =>
      rw [List.getElem?_append_right (by simp; omega)]
      have := ih i r (by simpa using hi) hr
      rw [show (i + 1) * 6 + r - ([.int .i64 b.id, .int .i64 b.addr, .int .i64 b.door, .int .i64 b.weight, .bool b.up, .bool b.drain] : List Value).length = i * 6 + r from by simp; omega, this]
      simp
theorem bkcells_one (bs : List Pl.Back) : ∀ u ∈ bkcells bs, u.oneCell' = true := fun u hu => by
  obtain ⟨b, _, hu⟩ := List.mem_flatMap.1 hu
  simp only [List.mem_cons, List.not_mem_nil, or_false] at hu
  rcases hu with rfl | rfl | rfl | rfl | rfl | rfl <;> rfl

/-- v is a slice of the servers bs, nil or at the head of a block from B on that the call has made. -/
def OwnB (w : World) (B : Nat) (v : Value) (bs : List Pl.Back) : Prop := w.ownsRow B 65 6 v bs.length (bkcells bs)
theorem OwnB.nil (w : World) (B : Nat) : OwnB w B (.slice none 0 0) [] := World.ownsRow_nil w B _ 6
theorem OwnB.lt {w : World} {B : Nat} {v : Value} {xs : List Pl.Back} (h : OwnB w B v xs) : ∀ k, v.ownBlock = some k → B ≤ k ∧ k < w.heap.size := World.ownsRow.lt h
theorem OwnB.ext {w w' : World} {B : Nat} {v : Value} {xs : List Pl.Back} (h : OwnB w B v xs) (hb : Ext w w') : OwnB w' B v xs := by
  have hC := h.lt
  refine ⟨h.1, ?_⟩
  rcases h.2 with hn | ⟨g, cap, cur, rfl, hg, hh, rest⟩
  · exact .inl hn
  · exact .inr ⟨g, cap, cur, rfl, hg, by rw [Below.block hb g (hC g rfl).2]; exact hh, rest⟩
/-- Only what it owns has turned: another row stands. -/
theorem OwnB.keep {w w' : World} {B C : Nat} {v : Value} {xs : List Pl.Back} (h : OwnB w B v xs) (hb : Below C w w') (hC : ∀ k, v.ownBlock = some k → k < C) : OwnB w' B v xs := by
  refine ⟨h.1, ?_⟩
  rcases h.2 with hn | ⟨g, cap, cur, rfl, hg, hh, rest⟩
  · exact .inl hn
  · exact .inr ⟨g, cap, cur, rfl, hg, by rw [hb.block g (hC g rfl)]; exact hh, rest⟩
theorem cells_backs {w : World} {g off n : Nat} {bs : List Pl.Back} (hn : bs.length = n) (hc : ∀ i r, i < n → r < 6 → w.cell? ⟨g, off + i * 6 + r, none⟩ = ([.int .i64 (bs.getD i Pl.back0).id, .int .i64 (bs.getD i Pl.back0).addr, .int .i64 (bs.getD i Pl.back0).door, .int .i64 (bs.getD i Pl.back0).weight, .bool (bs.getD i Pl.back0).up, .bool (bs.getD i Pl.back0).drain] : List Value)[r]?) : Backs w (some ⟨g, off, none⟩) n bs :=
  ⟨hn, .inr ⟨g, off, rfl, fun i hi => ⟨hc i 0 hi (by omega), hc i 1 hi (by omega), hc i 2 hi (by omega), hc i 3 hi (by omega), hc i 4 hi (by omega), hc i 5 hi (by omega)⟩⟩⟩
theorem OwnB.read {w : World} {B : Nat} {v : Value} {bs : List Pl.Back} (h : OwnB w B v bs) : ∃ a n cap, v = .slice a n cap ∧ n ≤ cap ∧ Backs w a n bs := by
  have h0 := h
  obtain ⟨h1, h2⟩ := h
  rcases h2 with ⟨rfl, hn⟩ | ⟨g, cap, cur, rfl, hg, hh, hnc, hcap, hsz, htake⟩
  · exact ⟨none, 0, 0, rfl, Nat.le_refl _, hn, .inl rfl⟩
  · refine ⟨_, _, cap, rfl, hnc, cells_backs rfl fun i r hi hr => ?_⟩
    rw [← bkcells_at bs i r hi hr]
    have hl : i * 6 + r < (bkcells bs).length := by rw [bkcells_length]; omega
    have := World.ownsRow.cells (g := g) h0 rfl (i * 6 + r) _ (List.getElem?_eq_getElem hl)
    rw [Addr.add_lit] at this
    rw [List.getElem?_eq_getElem hl, ← this]
    congr 2
    omega

theorem Tryd.infoBack : (Tryd.prog.info? 65).map (fun i => (i.zero, i.size, i.bytes)) = some (some (.agg #[.int .i64 Pl.back0.id, .int .i64 Pl.back0.addr, .int .i64 Pl.back0.door, .int .i64 Pl.back0.weight, .bool Pl.back0.up, .bool Pl.back0.drain]), 6, 40) := by kernel_rfl

/-- append of servers to what the call owns: at the operation. -/
theorem wp_appB {w : World} {o : Oper} {a : Act} {K : Act → World → Prop} {Q : Exit → Act → World → Prop} (s x : Operand)
    (ho : o.op = .call { callee := .builtin .append, args := #[s, x], argTypes := #[24, 24] })
    (B : Nat) (v : Value) (ys : List Pl.Back) (hs : a.eval s = v) (hown : OwnB w B v ys) (ao : Option Addr) (m c : Nat) (xs : List Pl.Back) (hx : a.eval x = .slice ao m c) (hr : Backs w ao m xs)
    (hmax : ys.length + m ≤ 1099511627776) (hbase : B ≤ w.heap.size)
    (h : ∀ v' w', OwnB w' B v' (ys ++ xs) → w.grownBy w' v.ownBlock → Below B w w' → K (a.put o.dst v') w') : o.wp Tryd.prog a w K Q := by
  obtain ⟨i0, hi, hz0, hz1, hz2⟩ := info_parts Tryd.infoBack
  have hl : (bkcells xs).length = m * 6 := by rw [bkcells_length, hr.1]
  rcases hr.2 with h0 | ⟨b, off, rfl, hc⟩
  · subst h0
    obtain rfl : xs = [] := List.length_eq_zero_iff.1 hr.1
    cases ao with
    | none =>
      refine wp_append_own_none0 s x _ ho B _ i0 6 Tryd.underlying24 hi v _ (bkcells ys) c hs hown hx (h v w ?_ (World.grownBy.refl _ _) (Below.refl B w))
      simpa using hown
    | some ad =>
      refine wp_append_own w s x _ ho B _ i0 _ 6 40 Tryd.underlying24 hi hz0 hz1 hz2 rfl (by decide) v _ (bkcells ys) hs hown ad 0 c [] hx rfl (fun _ _ h => by simp at h) (fun _ h => by cases h) (by unfold maxLen; omega) (by omega) hbase ?_
      intro v' w' ho' hg _
      exact h v' w' (by unfold OwnB; simpa using ho') hg ((Below.refl B w).grown hg hbase fun k hk => (hown.lt k hk).1)
  · refine wp_append_own w s x _ ho B _ i0 _ 6 40 Tryd.underlying24 hi hz0 hz1 hz2 rfl (by decide) v _ (bkcells ys) hs hown ⟨b, off, none⟩ m c (bkcells xs) hx hl ?_ (bkcells_one xs) (by unfold maxLen; omega) (by omega) hbase ?_
    · intro j u hj
      have hlt : j < m * 6 := by have := (List.getElem?_eq_some_iff.1 hj).1; omega
      have hi6 : j / 6 < m := by omega
      have hat := bkcells_at xs (j / 6) (j % 6) (by rw [hr.1]; exact hi6) (Nat.mod_lt _ (by omega))
      rw [show j / 6 * 6 + j % 6 = j from by omega, hj] at hat
      obtain ⟨c0, c1, c2, c3, c4, c5⟩ := hc (j / 6) hi6
      have hm : j % 6 = 0 ∨ j % 6 = 1 ∨ j % 6 = 2 ∨ j % 6 = 3 ∨ j % 6 = 4 ∨ j % 6 = 5 := by omega
      rw [Addr.add_lit]
      rcases hm with hm | hm | hm | hm | hm | hm <;> rw [hm] at hat
      · rw [show off + j = off + j / 6 * 6 from by omega, c0]; exact hat.symm
      · rw [show off + j = off + j / 6 * 6 + 1 from by omega, c1]; exact hat.symm
      · rw [show off + j = off + j / 6 * 6 + 2 from by omega, c2]; exact hat.symm
      · rw [show off + j = off + j / 6 * 6 + 3 from by omega, c3]; exact hat.symm
      · rw [show off + j = off + j / 6 * 6 + 4 from by omega, c4]; exact hat.symm
      · rw [show off + j = off + j / 6 * 6 + 5 from by omega, c5]; exact hat.symm
    · intro v' w' ho' hg _
      refine h v' w' ?_ hg ((Below.refl B w).grown hg hbase fun k hk => (hown.lt k hk).1)
      unfold OwnB
      rw [List.length_append, hr.1, ← bkcells_append]
      exact ho'
theorem appB {w : World} {ops : Array Oper} {rest : List Oper} {o : Oper} {a : Act} {Q : Exit → Act → World → Prop} (hgd : o.guard = none) (s x : Operand)
    (ho : o.op = .call { callee := .builtin .append, args := #[s, x], argTypes := #[24, 24] })
    (B : Nat) (v : Value) (ys : List Pl.Back) (hs : a.eval s = v) (hown : OwnB w B v ys) (ao : Option Addr) (m c : Nat) (xs : List Pl.Back) (hx : a.eval x = .slice ao m c) (hr : Backs w ao m xs)
    (hmax : ys.length + m ≤ 1099511627776) (hbase : B ≤ w.heap.size)
    (h : ∀ v' w', OwnB w' B v' (ys ++ xs) → w.grownBy w' v.ownBlock → Below B w w' → wpList Tryd.prog ops Q rest (a.put o.dst v') w') : wpList Tryd.prog ops Q (o :: rest) a w :=
  wpList_plain hgd fun _ hK => wp_appB s x ho B v ys hs hown ao m c xs hx hr hmax hbase fun v' w' h1 h2 h3 => hK _ _ (h v' w' h1 h2 h3)
theorem Blk.backs1 {w : World} {g : Nat} {t : TypeId} {x : Pl.Back} (h : Blk w g t #[.int .i64 x.id, .int .i64 x.addr, .int .i64 x.door, .int .i64 x.weight, .bool x.up, .bool x.drain]) : Backs w (some ⟨g, 0, none⟩) 1 [x] :=
  cells_backs rfl fun i r hi hr => by
    obtain rfl : i = 0 := by omega
    rw [show 0 + 0 * 6 + r = r from by omega, h.cells]
    simp
theorem Blk.backs2 {w : World} {g : Nat} {t : TypeId} {x y : Pl.Back} (h : Blk w g t #[.int .i64 x.id, .int .i64 x.addr, .int .i64 x.door, .int .i64 x.weight, .bool x.up, .bool x.drain, .int .i64 y.id, .int .i64 y.addr, .int .i64 y.door, .int .i64 y.weight, .bool y.up, .bool y.drain]) : Backs w (some ⟨g, 0, none⟩) 2 [x, y] :=
  cells_backs rfl fun i r hi hr => by
    have hi' : i = 0 ∨ i = 1 := by omega
    have hr' : r = 0 ∨ r = 1 ∨ r = 2 ∨ r = 3 ∨ r = 4 ∨ r = 5 := by omega
    rw [h.cells]
    rcases hi' with rfl | rfl <;> rcases hr' with rfl | rfl | rfl | rfl | rfl | rfl <;> rfl
theorem Backs.take {w : World} {a : Option Addr} {n : Nat} {bs : List Pl.Back} (h : Backs w a n bs) (k : Nat) (hk : k ≤ n) : Backs w a k (bs.take k) := by
  refine ⟨by rw [List.length_take, h.1]; omega, ?_⟩
  rcases h.2 with h0 | ⟨b, off, rfl, hc⟩
  · exact .inl (by omega)
  · refine .inr ⟨b, off, rfl, fun i hi => ?_⟩
    have e : (bs.take k).getD i Pl.back0 = bs.getD i Pl.back0 := by simp [List.getD, hi]
    rw [e]
    exact hc i (by omega)
theorem Backs.drop {w : World} {b off n : Nat} {bs : List Pl.Back} (h : Backs w (some ⟨b, off, none⟩) n bs) (k : Nat) : Backs w (some ⟨b, off + k * 6, none⟩) (n - k) (bs.drop k) := by
  refine ⟨by rw [List.length_drop, h.1], ?_⟩
  rcases h.2 with h0 | ⟨b', off', hb, hc⟩
  · exact .inl (by omega)
  · cases hb
    refine .inr ⟨b, _, rfl, fun i hi => ?_⟩
    have e : (bs.drop k).getD i Pl.back0 = bs.getD (k + i) Pl.back0 := by simp [List.getD, List.getElem?_drop]
    rw [e]
    have := hc (k + i) (by omega)
    rwa [show off + (k + i) * 6 = off + k * 6 + i * 6 from by omega] at this
theorem Tryd.elemBacks : Tryd.prog.elem 24 = 65 := by kernel_rfl
theorem Tryd.sizeBack : ∀ w : World, (sizeOf 65).run Tryd.prog w = .ok 6 w := fun w => by kernel_rfl
/-- l[k:], under one name. -/
theorem slice_backs (b off n c k : Nat) (i : Int) (hi : i = k) (hk : k ≤ n) :
    ∃ AA : Option Addr, AA = (if c = k then some ⟨b, off, none⟩ else some ⟨b, off + k * 6, none⟩) ∧ ∀ W : World, (Instr.slice 24 (.slice (some ⟨b, off, none⟩) n c) (some (.int .i64 i)) none none).run Tryd.prog W = .ok (.slice AA (n - k) (c - k)) W := by
  subst hi
  refine ⟨_, rfl, fun W => ?_⟩
  rw [run_slice_l W 24 (some ⟨b, off, none⟩) n c (by rw [Tryd.elemBacks]; exact Tryd.underlying24) .i64 (k : Int) (by omega) (by omega), Tryd.elemBacks, Tryd.sizeBack]
  simp only [Result.andThen_ok, sliced, Int.toNat_natCast, Option.map_some, Addr.add_lit]
theorem Backs.tail {w : World} {b off n : Nat} {bs : List Pl.Back} (h : Backs w (some ⟨b, off, none⟩) n bs) (k c : Nat) (hc : n ≤ c) :
    Backs w (if c = k then some ⟨b, off, none⟩ else some ⟨b, off + k * 6, none⟩) (n - k) (bs.drop k) := by
  by_cases hk : c = k
  · rw [if_pos hk]
    have h0 : n - k = 0 := by omega
    exact ⟨by rw [List.length_drop, h.1], .inl h0⟩
  · rw [if_neg hk]
    exact h.drop k
end Go.Proofs.YtbjogkpepfgegaaDoor
namespace Go.Proofs.YtbjogkpepfgegaaDoor
open Go.RowKit
section
variable {κ : Type} {K : Keys κ} {w : World} {g : Nat} {l : List (Ent κ)} {clock : Nat}
/-- The entry of a new key. -/
theorem MapIs.entry (h : MapIs K w g l clock) (hF : K.Finds) (mt e : TypeId) (hm : Tryd.prog.underlying mt = some (.map K.t e)) (z : Value) (hz : (zeroValue e).run Tryd.prog w = .ok z w) (k : κ) (hk : K.look k l 0 = none) :
    (Instr.mapEntry mt (.map (some g)) (K.f k)).run Tryd.prog w = .ok (.tuple #[z, goInt clock]) (putMap K w g (l ++ [⟨k, z, clock⟩]) (clock + 1)) := by
  have hf := hF k l w
  rw [hk] at hf
  have hc := K.check false k w
  unfold Instr.mapEntry
  simp only [Sem.run_bind, run_underlying hm, Result.andThen_ok, MapKept.run_getObj_map h.here, hc, hf, hz, MapKept.run_setObj_map _ h.here]
  unfold putMap
  simp [Keys.ent]
theorem find_last {x : Ent κ} : ∀ (l : List (Ent κ)), (∀ y ∈ l, y.born < x.born) → ((l ++ [x]).map K.ent).toArray.findIdx? (fun e => (e.born : Int) == (x.born : Int)) = some l.length := by
  intro l hl
  rw [List.findIdx?_toArray, List.map_append, List.findIdx?_append, List.findIdx?_eq_none_iff.2]
  · simp [Keys.ent]
  · intro y hy
    obtain ⟨y', hy', rfl⟩ := List.mem_map.1 hy
    have := hl y' hy'
    simp only [Keys.ent, beq_eq_false_iff_ne, ne_eq]
    omega
/-- The value of the last entry. -/
theorem MapIs.fill {k : κ} {z : Value} (h : MapIs K w g (l ++ [⟨k, z, clock⟩]) (clock + 1)) (ho : ∀ y ∈ l, y.born < clock) (mt : TypeId) (v : Value) :
    (Instr.entryStore mt (.map (some g)) (goInt clock) v).run Tryd.prog w = .ok () (putMap K w g (l ++ [⟨k, v, clock⟩]) (clock + 1)) := by
  have hf := find_last (K := K) (x := ⟨k, z, clock⟩) l ho
  unfold Instr.entryStore
  simp only [Sem.run_bind, Result.andThen_ok, MapKept.run_getObj_map h.here, goInt, asInt, asIntOf, Sem.run_pure]
  dsimp only at hf
  have hA : (((l ++ [(⟨k, z, clock⟩ : Ent κ)]).map K.ent).toArray.modify l.length fun e => { e with val := v }) = ((l ++ [(⟨k, v, clock⟩ : Ent κ)]).map K.ent).toArray := by
    refine Array.ext_getElem? fun j => ?_
    rw [Array.getElem?_modify, List.getElem?_toArray, List.getElem?_toArray, List.map_append, List.map_append]
    rcases Nat.lt_trichotomy j l.length with hj | hj | hj
    · rw [if_neg (by omega), List.getElem?_append_left (by simpa using hj), List.getElem?_append_left (by simpa using hj)]
    · subst hj
      simp [Keys.ent]
    · rw [if_neg (by omega), List.getElem?_eq_none (by simp; omega), List.getElem?_eq_none (by simp; omega)]
  simp only [hf, MapKept.run_setObj_map _ h.here, hA]
  rfl
end
end Go.Proofs.YtbjogkpepfgegaaDoor
namespace Go.Proofs.YtbjogkpepfgegaaDoor
open Go.ChangeShapes Go.WideShapes Go.ChangeAt Go.RowKit

section
variable {H : Type} {enc : TypeId × Value → H} {W : World}

theorem open_field_int {n : Nat} {t : TypeId} (ht : Tryd.prog.underlying t = some (.int .i64)) {c : Value} {y : Option (DataW H × List MemPlace)} (hy : y.isSome = true) (h : DataW.trod enc Tryd.prog W 0 (fun _ => true) true n t [c] = y) : ∃ x, c = .int .i64 x ∧ IsInt x := by
  obtain ⟨y, rfl⟩ := Option.isSome_iff_exists.1 hy
  obtain ⟨x, hx, _, hw⟩ := DataW.trod_int ht h
  exact ⟨x, by simpa using hx, wf_i64 hw⟩
theorem open_field_bytes {n : Nat} {c : Value} {y : Option (DataW H × List MemPlace)} (hy : y.isSome = true) (h : DataW.trod enc Tryd.prog W 0 (fun _ => true) true n 27 [c] = y) : ∃ a l k xs, c = .slice a l k ∧ IsBytes W a l k xs ∧ (a = none → k = 0) := by
  obtain ⟨y, rfl⟩ := Option.isSome_iff_exists.1 hy
  rcases open_ints Tryd.underlying27 Tryd.underlying5 (by kernel_rfl) h with ⟨hcs, _⟩ | ⟨x, l, c', zs, hcs, _, hl, hm, hz, _, hcell, hwz⟩
  · obtain rfl : c = .slice none 0 0 := by simpa using hcs
    exact ⟨none, 0, 0, [], rfl, ⟨Ints.nil, Pl.IsB.nil, Nat.le_refl _, Nat.zero_le _⟩, fun _ => rfl⟩
  · obtain rfl : c = .slice (some x) l c' := by simpa using hcs
    exact ⟨some x, l, c', zs.take l, rfl, ⟨ints_of_cells hl (by simpa using hz) hcell, fun y hy => wf_u8 (hwz y (List.mem_of_mem_take hy)), hl, hm⟩, fun h => by cases h⟩

theorem isSome_of_len {α : Type} {xs : List α} {n j : Nat} (h : xs.length = n) (hj : j < n) : (xs[j]?).isSome = true := by
  rw [List.getElem?_eq_getElem (by omega)]; rfl

set_option maxRecDepth 100000 in
/-- A packet of fours that came in. -/
theorem open_pack4 {v : Value} {d : DataW H} {p : List MemPlace} {base : Nat} (hv : Value.okWide Tryd.prog W .any base 42 v) (h : DataW.Trod enc Tryd.prog W 0 (fun _ => true) true 42 v d p) :
    ∃ s d t k i a l c xs, v = pk4 s d t k i (.slice a l c) ∧ (IsInt s ∧ IsInt d ∧ IsInt t ∧ IsInt k ∧ IsInt i) ∧ IsBytes W a l c xs ∧ (a = none → c = 0) := by
  obtain ⟨cs, rfl, hsz⟩ := okWide_struct Tryd.underlying42 hv
  obtain ⟨l⟩ := cs
  have hC : Tryd.prog.cellsOf 42 = 6 := by kernel_rfl
  have hI : Tryd.prog.cellsOf 3 = 1 := by kernel_rfl
  have hB : Tryd.prog.cellsOf 27 = 1 := by kernel_rfl
  match l, hsz.trans hC with
  | [c0, c1, c2, c3, c4, c5], _ =>
    obtain ⟨fuel, hf⟩ := h
    obtain ⟨xs, n, _, _, _, hlen, hg⟩ := DataW.trod_struct Tryd.underlying42 hf
    have e0 : DataW.trod enc Tryd.prog W 0 (fun _ => true) true n 3 [c0] = xs[0]? := by simpa [Value.cells, hI] using hg 0 _ rfl
    have e1 : DataW.trod enc Tryd.prog W 0 (fun _ => true) true n 3 [c1] = xs[1]? := by simpa [Value.cells, hI] using hg 1 _ rfl
    have e2 : DataW.trod enc Tryd.prog W 0 (fun _ => true) true n 3 [c2] = xs[2]? := by simpa [Value.cells, hI] using hg 2 _ rfl
    have e3 : DataW.trod enc Tryd.prog W 0 (fun _ => true) true n 3 [c3] = xs[3]? := by simpa [Value.cells, hI] using hg 3 _ rfl
    have e4 : DataW.trod enc Tryd.prog W 0 (fun _ => true) true n 3 [c4] = xs[4]? := by simpa [Value.cells, hI] using hg 4 _ rfl
    have e5 : DataW.trod enc Tryd.prog W 0 (fun _ => true) true n 27 [c5] = xs[5]? := by simpa [Value.cells, hB] using hg 5 _ rfl
    obtain ⟨x0, rfl, i0⟩ := open_field_int Tryd.underlying3 (isSome_of_len hlen (by simp)) e0
    obtain ⟨x1, rfl, i1⟩ := open_field_int Tryd.underlying3 (isSome_of_len hlen (by simp)) e1
    obtain ⟨x2, rfl, i2⟩ := open_field_int Tryd.underlying3 (isSome_of_len hlen (by simp)) e2
    obtain ⟨x3, rfl, i3⟩ := open_field_int Tryd.underlying3 (isSome_of_len hlen (by simp)) e3
    obtain ⟨x4, rfl, i4⟩ := open_field_int Tryd.underlying3 (isSome_of_len hlen (by simp)) e4
    obtain ⟨a, m, k, ys, rfl, hy, hn⟩ := open_field_bytes (isSome_of_len hlen (by simp)) e5
    exact ⟨x0, x1, x2, x3, x4, a, m, k, ys, rfl, ⟨i0, i1, i2, i3, i4⟩, hy, hn⟩
end
end Go.Proofs.YtbjogkpepfgegaaDoor
namespace Go.Proofs.YtbjogkpepfgegaaDoor
open Go.RowKit
set_option maxRecDepth 100000 in
set_option maxHeartbeats 1000000 in
theorem pack6s_yes (p : P6) (a a' : Option Addr) (n c n' c' : Nat) (xs : List Int) (w : World) (h1 : Ints .u8 w a n xs) (h2 : Ints .u8 w a' n' xs) :
    Calls Tryd.prog 17 #[p.v (.slice a n c), p.v (.slice a' n' c')] w fun e w' => e = .returned (.bool true) ∧ Ext w w' := by
  have K1 := (Blk.new w 47 (p.cells (.slice a n c))).alloc (.cells (p.cells (.slice a' n' c')) 47)
  have K2 := Blk.new (w.alloc (.cells (p.cells (.slice a n c)) 47)) 47 (p.cells (.slice a' n' c'))
  simp only [World.size_alloc] at K2
  have E2 := ((Ext.refl w).alloc (.cells (p.cells (.slice a n c)) 47)).alloc (.cells (p.cells (.slice a' n' c')) 47)
  have k1 := conv_str (c := c) (h1.ext E2)
  have k2 := conv_str (c := c') (h2.ext E2)
  have l1 := K1.p6src
  have l2 := K2.p6src
  have l3 := K1.p6dst
  have l4 := K2.p6dst
  obtain ⟨m0, m1, m2⟩ := K1.p6nums
  obtain ⟨m3, m4, m5⟩ := K2.p6nums
  have HE := Lib.hid E2
  have q1 := fun W => six_same p.src W
  have q2 := fun W => six_same p.dst W
  generalize strOfNums xs = z at k1 k2
  clear h1 h2 E2
  go_enter Tryd.func17, Tryd.ntmps17
  go_wp2_with ((apply load_by rfl _ _ rfl _ rfl); (focus (with_reducible assumption)))
  go_ret
  exact ⟨rfl, HE.out⟩
end Go.Proofs.YtbjogkpepfgegaaDoor
