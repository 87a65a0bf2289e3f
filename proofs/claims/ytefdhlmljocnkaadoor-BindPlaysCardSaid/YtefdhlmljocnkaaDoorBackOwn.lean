/- Lists of servers that the call itself has made: append, parts. Conditions: as each lemma states them. -/
import Derived.Test.YtefdhlmljocnkaaDoorBacks
namespace Go.Proofs.YtefdhlmljocnkaaDoor
open Go.RowKit

def bkcells (bs : List Pl.Back) : List Value := bs.flatMap fun b => [.int .i64 b.id, .int .i64 b.addr, .int .i64 b.door, .int .i64 b.weight, .bool b.up, .bool b.drain]
theorem bkcells_length (bs : List Pl.Back) : (bkcells bs).length = bs.length * 6 := by
  induction bs with
  | nil => rfl
  | cons b r ih => unfold bkcells at *; rw [List.flatMap_cons, List.length_append, ih]; simp; omega
theorem bkcells_append (xs ys : List Pl.Back) : bkcells xs ++ bkcells ys = bkcells (xs ++ ys) := by simp [bkcells]
theorem bkcells_at (bs : List Pl.Back) : ∀ (i r : Nat), i < bs.length → r < 6 → (bkcells bs)[i * 6 + r]? = [.int .i64 (bs.getD i Pl.back0).id, .int .i64 (bs.getD i Pl.back0).addr, .int .i64 (bs.getD i Pl.back0).door, .int .i64 (bs.getD i Pl.back0).weight, .bool (bs.getD i Pl.back0).up, .bool (bs.getD i Pl.back0).drain][r]? := by
  induction bs with
  | nil => intro i r hi; simp at hi
  | cons b t ih =>
    intro i r hi hr
    have e : bkcells (b :: t) = [.int .i64 b.id, .int .i64 b.addr, .int .i64 b.door, .int .i64 b.weight, .bool b.up, .bool b.drain] ++ bkcells t := by simp [bkcells]
    rw [e]
    cases i with
    | zero =>
      rw [List.getElem?_append_left (by simp; omega)]
      simp
    | succ i =>
      rw [List.getElem?_append_right (by simp; omega)]
      have := ih i r (by simpa using hi) hr
      rw [show (i + 1) * 6 + r - ([.int .i64 b.id, .int .i64 b.addr, .int .i64 b.door, .int .i64 b.weight, .bool b.up, .bool b.drain] : List Value).length = i * 6 + r from by simp; omega, this]
      simp
theorem bkcells_one (bs : List Pl.Back) : ∀ u ∈ bkcells bs, u.oneCell' = true := fun u hu => by
  obtain ⟨b, _, hu⟩ := List.mem_flatMap.1 hu
  simp only [List.mem_cons, List.not_mem_nil, or_false] at hu
  rcases hu with rfl | rfl | rfl | rfl | rfl | rfl <;> rfl

/-- v is a slice of the servers bs, nil or at the head of a block from B on that the call has made. -/
def OwnB (w : World) (B : Nat) (v : Value) (bs : List Pl.Back) : Prop := w.ownsRow B 95 6 v bs.length (bkcells bs)
theorem OwnB.nil (w : World) (B : Nat) : OwnB w B (.slice none 0 0) [] := World.ownsRow_nil w B _ 6
theorem OwnB.lt {w : World} {B : Nat} {v : Value} {xs : List Pl.Back} (h : OwnB w B v xs) : ∀ k, v.ownBlock = some k → B ≤ k ∧ k < w.heap.size := World.ownsRow.lt h
theorem OwnB.ext {w w' : World} {B : Nat} {v : Value} {xs : List Pl.Back} (h : OwnB w B v xs) (hb : Ext w w') : OwnB w' B v xs := by
  have hC := h.lt
  refine ⟨h.1, ?_⟩
  rcases h.2 with hn | ⟨g, cap, cur, rfl, hg, hh, rest⟩
  · exact .inl hn
  · exact .inr ⟨g, cap, cur, rfl, hg, by rw [Below.block hb g (hC g rfl).2]; exact hh, rest⟩
/-- Only what it owns has turned: another row stands. -/
theorem OwnB.keep {w w' : World} {B C : Nat} {v : Value} {xs : List Pl.Back} (h : OwnB w B v xs) (hb : Below C w w') (hC : ∀ k, v.ownBlock = some k → k < C) : OwnB w' B v xs := by
  refine ⟨h.1, ?_⟩
  rcases h.2 with hn | ⟨g, cap, cur, rfl, hg, hh, rest⟩
  · exact .inl hn
  · exact .inr ⟨g, cap, cur, rfl, hg, by rw [hb.block g (hC g rfl)]; exact hh, rest⟩
theorem cells_backs {w : World} {g off n : Nat} {bs : List Pl.Back} (hn : bs.length = n) (hc : ∀ i r, i < n → r < 6 → w.cell? ⟨g, off + i * 6 + r, none⟩ = ([.int .i64 (bs.getD i Pl.back0).id, .int .i64 (bs.getD i Pl.back0).addr, .int .i64 (bs.getD i Pl.back0).door, .int .i64 (bs.getD i Pl.back0).weight, .bool (bs.getD i Pl.back0).up, .bool (bs.getD i Pl.back0).drain] : List Value)[r]?) : Backs w (some ⟨g, off, none⟩) n bs :=
  ⟨hn, .inr ⟨g, off, rfl, fun i hi => ⟨hc i 0 hi (by omega), hc i 1 hi (by omega), hc i 2 hi (by omega), hc i 3 hi (by omega), hc i 4 hi (by omega), hc i 5 hi (by omega)⟩⟩⟩
theorem OwnB.read {w : World} {B : Nat} {v : Value} {bs : List Pl.Back} (h : OwnB w B v bs) : ∃ a n cap, v = .slice a n cap ∧ n ≤ cap ∧ Backs w a n bs := by
  have h0 := h
  obtain ⟨h1, h2⟩ := h
  rcases h2 with ⟨rfl, hn⟩ | ⟨g, cap, cur, rfl, hg, hh, hnc, hcap, hsz, htake⟩
  · exact ⟨none, 0, 0, rfl, Nat.le_refl _, hn, .inl rfl⟩
  · refine ⟨_, _, cap, rfl, hnc, cells_backs rfl fun i r hi hr => ?_⟩
    rw [← bkcells_at bs i r hi hr]
    have hl : i * 6 + r < (bkcells bs).length := by rw [bkcells_length]; omega
    have := World.ownsRow.cells (g := g) h0 rfl (i * 6 + r) _ (List.getElem?_eq_getElem hl)
    rw [Addr.add_lit] at this
    rw [List.getElem?_eq_getElem hl, ← this]
    congr 2
    omega

theorem Tryd.infoBack : (Tryd.prog.info? 95).map (fun i => (i.zero, i.size, i.bytes)) = some (some (.agg #[.int .i64 Pl.back0.id, .int .i64 Pl.back0.addr, .int .i64 Pl.back0.door, .int .i64 Pl.back0.weight, .bool Pl.back0.up, .bool Pl.back0.drain]), 6, 40) := by kernel_rfl

/-- append of servers to what the call owns: at the operation. -/
theorem wp_appB {w : World} {o : Oper} {a : Act} {K : Act → World → Prop} {Q : Exit → Act → World → Prop} (s x : Operand)
    (ho : o.op = .call { callee := .builtin .append, args := #[s, x], argTypes := #[24, 24] })
    (B : Nat) (v : Value) (ys : List Pl.Back) (hs : a.eval s = v) (hown : OwnB w B v ys) (ao : Option Addr) (m c : Nat) (xs : List Pl.Back) (hx : a.eval x = .slice ao m c) (hr : Backs w ao m xs)
    (hmax : ys.length + m ≤ 1099511627776) (hbase : B ≤ w.heap.size)
    (h : ∀ v' w', OwnB w' B v' (ys ++ xs) → w.grownBy w' v.ownBlock → Below B w w' → K (a.put o.dst v') w') : o.wp Tryd.prog a w K Q := by
  obtain ⟨i0, hi, hz0, hz1, hz2⟩ := info_parts Tryd.infoBack
  have hl : (bkcells xs).length = m * 6 := by rw [bkcells_length, hr.1]
  rcases hr.2 with h0 | ⟨b, off, rfl, hc⟩
  · subst h0
    obtain rfl : xs = [] := List.length_eq_zero_iff.1 hr.1
    cases ao with
    | none =>
      refine wp_append_own_none0 s x _ ho B _ i0 6 Tryd.underlying24 hi v _ (bkcells ys) c hs hown hx (h v w ?_ (World.grownBy.refl _ _) (Below.refl B w))
      simpa using hown
    | some ad =>
      refine wp_append_own w s x _ ho B _ i0 _ 6 40 Tryd.underlying24 hi hz0 hz1 hz2 rfl (by decide) v _ (bkcells ys) hs hown ad 0 c [] hx rfl (fun _ _ h => by simp at h) (fun _ h => by cases h) (by unfold maxLen; omega) (by omega) hbase ?_
      intro v' w' ho' hg _
      exact h v' w' (by unfold OwnB; simpa using ho') hg ((Below.refl B w).grown hg hbase fun k hk => (hown.lt k hk).1)
  · refine wp_append_own w s x _ ho B _ i0 _ 6 40 Tryd.underlying24 hi hz0 hz1 hz2 rfl (by decide) v _ (bkcells ys) hs hown ⟨b, off, none⟩ m c (bkcells xs) hx hl ?_ (bkcells_one xs) (by unfold maxLen; omega) (by omega) hbase ?_
    · intro j u hj
      have hlt : j < m * 6 := by have := (List.getElem?_eq_some_iff.1 hj).1; omega
      have hi6 : j / 6 < m := by omega
      have hat := bkcells_at xs (j / 6) (j % 6) (by rw [hr.1]; exact hi6) (Nat.mod_lt _ (by omega))
      rw [show j / 6 * 6 + j % 6 = j from by omega, hj] at hat
      obtain ⟨c0, c1, c2, c3, c4, c5⟩ := hc (j / 6) hi6
      have hm : j % 6 = 0 ∨ j % 6 = 1 ∨ j % 6 = 2 ∨ j % 6 = 3 ∨ j % 6 = 4 ∨ j % 6 = 5 := by omega
      rw [Addr.add_lit]
      rcases hm with hm | hm | hm | hm | hm | hm <;> rw [hm] at hat
      · rw [show off + j = off + j / 6 * 6 from by omega, c0]; exact hat.symm
      · rw [show off + j = off + j / 6 * 6 + 1 from by omega, c1]; exact hat.symm
      · rw [show off + j = off + j / 6 * 6 + 2 from by omega, c2]; exact hat.symm
      · rw [show off + j = off + j / 6 * 6 + 3 from by omega, c3]; exact hat.symm
      · rw [show off + j = off + j / 6 * 6 + 4 from by omega, c4]; exact hat.symm
      · rw [show off + j = off + j / 6 * 6 + 5 from by omega, c5]; exact hat.symm
    · intro v' w' ho' hg _
      refine h v' w' ?_ hg ((Below.refl B w).grown hg hbase fun k hk => (hown.lt k hk).1)
      unfold OwnB
      rw [List.length_append, hr.1, ← bkcells_append]
      exact ho'
theorem appB {w : World} {ops : Array Oper} {rest : List Oper} {o : Oper} {a : Act} {Q : Exit → Act → World → Prop} (hgd : o.guard = none) (s x : Operand)
    (ho : o.op = .call { callee := .builtin .append, args := #[s, x], argTypes := #[24, 24] })
    (B : Nat) (v : Value) (ys : List Pl.Back) (hs : a.eval s = v) (hown : OwnB w B v ys) (ao : Option Addr) (m c : Nat) (xs : List Pl.Back) (hx : a.eval x = .slice ao m c) (hr : Backs w ao m xs)
    (hmax : ys.length + m ≤ 1099511627776) (hbase : B ≤ w.heap.size)
    (h : ∀ v' w', OwnB w' B v' (ys ++ xs) → w.grownBy w' v.ownBlock → Below B w w' → wpList Tryd.prog ops Q rest (a.put o.dst v') w') : wpList Tryd.prog ops Q (o :: rest) a w :=
  wpList_plain hgd fun _ hK => wp_appB s x ho B v ys hs hown ao m c xs hx hr hmax hbase fun v' w' h1 h2 h3 => hK _ _ (h v' w' h1 h2 h3)
theorem Blk.backs1 {w : World} {g : Nat} {t : TypeId} {x : Pl.Back} (h : Blk w g t #[.int .i64 x.id, .int .i64 x.addr, .int .i64 x.door, .int .i64 x.weight, .bool x.up, .bool x.drain]) : Backs w (some ⟨g, 0, none⟩) 1 [x] :=
  cells_backs rfl fun i r hi hr => by
    obtain rfl : i = 0 := by omega
    rw [show 0 + 0 * 6 + r = r from by omega, h.cells]
    simp
theorem Blk.backs2 {w : World} {g : Nat} {t : TypeId} {x y : Pl.Back} (h : Blk w g t #[.int .i64 x.id, .int .i64 x.addr, .int .i64 x.door, .int .i64 x.weight, .bool x.up, .bool x.drain, .int .i64 y.id, .int .i64 y.addr, .int .i64 y.door, .int .i64 y.weight, .bool y.up, .bool y.drain]) : Backs w (some ⟨g, 0, none⟩) 2 [x, y] :=
  cells_backs rfl fun i r hi hr => by
    have hi' : i = 0 ∨ i = 1 := by omega
    have hr' : r = 0 ∨ r = 1 ∨ r = 2 ∨ r = 3 ∨ r = 4 ∨ r = 5 := by omega
    rw [h.cells]
    rcases hi' with rfl | rfl <;> rcases hr' with rfl | rfl | rfl | rfl | rfl | rfl <;> rfl
theorem Backs.take {w : World} {a : Option Addr} {n : Nat} {bs : List Pl.Back} (h : Backs w a n bs) (k : Nat) (hk : k ≤ n) : Backs w a k (bs.take k) := by
  refine ⟨by rw [List.length_take, h.1]; omega, ?_⟩
  rcases h.2 with h0 | ⟨b, off, rfl, hc⟩
  · exact .inl (by omega)
  · refine .inr ⟨b, off, rfl, fun i hi => ?_⟩
    have e : (bs.take k).getD i Pl.back0 = bs.getD i Pl.back0 := by simp [List.getD, hi]
    rw [e]
    exact hc i (by omega)
theorem Backs.drop {w : World} {b off n : Nat} {bs : List Pl.Back} (h : Backs w (some ⟨b, off, none⟩) n bs) (k : Nat) : Backs w (some ⟨b, off + k * 6, none⟩) (n - k) (bs.drop k) := by
  refine ⟨by rw [List.length_drop, h.1], ?_⟩
  rcases h.2 with h0 | ⟨b', off', hb, hc⟩
  · exact .inl (by omega)
  · cases hb
    refine .inr ⟨b, _, rfl, fun i hi => ?_⟩
    have e : (bs.drop k).getD i Pl.back0 = bs.getD (k + i) Pl.back0 := by simp [List.getD, List.getElem?_drop]
    rw [e]
    have := hc (k + i) (by omega)
    rwa [show off + (k + i) * 6 = off + k * 6 + i * 6 from by omega] at this
theorem Tryd.elemBacks : Tryd.prog.elem 24 = 95 := by kernel_rfl
theorem Tryd.sizeBack : ∀ w : World, (sizeOf 95).run Tryd.prog w = .ok 6 w := fun w => by kernel_rfl
/-- l[k:], under one name. -/
theorem slice_backs (b off n c k : Nat) (i : Int) (hi : i = k) (hk : k ≤ n) :
    ∃ AA : Option Addr, AA = (if c = k then some ⟨b, off, none⟩ else some ⟨b, off + k * 6, none⟩) ∧ ∀ W : World, (Instr.slice 24 (.slice (some ⟨b, off, none⟩) n c) (some (.int .i64 i)) none none).run Tryd.prog W = .ok (.slice AA (n - k) (c - k)) W := by
  subst hi
  refine ⟨_, rfl, fun W => ?_⟩
  rw [run_slice_l W 24 (some ⟨b, off, none⟩) n c (by rw [Tryd.elemBacks]; exact Tryd.underlying24) .i64 (k : Int) (by omega) (by omega), Tryd.elemBacks, Tryd.sizeBack]
  simp only [Result.andThen_ok, sliced, Int.toNat_natCast, Option.map_some, Addr.add_lit]
theorem Backs.tail {w : World} {b off n : Nat} {bs : List Pl.Back} (h : Backs w (some ⟨b, off, none⟩) n bs) (k c : Nat) (hc : n ≤ c) :
    Backs w (if c = k then some ⟨b, off, none⟩ else some ⟨b, off + k * 6, none⟩) (n - k) (bs.drop k) := by
  by_cases hk : c = k
  · rw [if_pos hk]
    have h0 : n - k = 0 := by omega
    exact ⟨by rw [List.length_drop, h.1], .inl h0⟩
  · rw [if_neg hk]
    exact h.drop k
end Go.Proofs.YtefdhlmljocnkaaDoor
