/- Rows of values of any type: what a slice shows, what the call itself has made, append. Conditions: as each lemma states them. -/
import Derived.Test.YtonjifkjammopaaGreatDoorMem
namespace Go.Proofs.YtonjifkjammopaaGreatDoor
open Go.RowKit

/-- How a value of a type lies in cells. -/
structure Kin (α : Type) where
  f : α → List Value
  sz : Nat
  pos : 0 < sz
  len : ∀ x, (f x).length = sz
  one : ∀ x, ∀ u ∈ f x, u.oneCell' = true
namespace Kin
variable {α : Type} (K : Kin α)
def cells (xs : List α) : List Value := xs.flatMap K.f
theorem cells_length (xs : List α) : (K.cells xs).length = xs.length * K.sz := by
  induction xs with
  | nil => simp [cells]
  | cons b r ih => unfold cells at *; rw [List.flatMap_cons, List.length_append, ih, K.len, List.length_cons, Nat.add_mul]; omega
theorem cells_append (xs ys : List α) : K.cells xs ++ K.cells ys = K.cells (xs ++ ys) := by simp [cells]
theorem cells_one (xs : List α) : ∀ u ∈ K.cells xs, u.oneCell' = true := fun u hu => by
  obtain ⟨b, _, hu⟩ := List.mem_flatMap.1 hu
  exact K.one b u hu
theorem cells_at (xs : List α) : ∀ (i r : Nat) (x : α), xs[i]? = some x → r < K.sz → (K.cells xs)[i * K.sz + r]? = (K.f x)[r]? := by
  induction xs with
  | nil => intro i r x hi; simp at hi
  | cons b t ih =>
    intro i r x hi hr
    have e : K.cells (b :: t) = K.f b ++ K.cells t := by simp [cells]
    rw [e]
    cases i with
    | zero =>
      obtain rfl : b = x := by simpa using hi
      rw [List.getElem?_append_left (by rw [K.len]; omega)]
      simp
    | succ i =>
      rw [List.getElem?_append_right (by rw [K.len, Nat.add_mul]; omega)]
      have := ih i r x (by simpa using hi) hr
      rw [show (i + 1) * K.sz + r - (K.f b).length = i * K.sz + r from by rw [K.len, Nat.add_mul]; omega, this]
/-- A slice's value shows these. -/
def See (w : World) (a : Option Addr) (n : Nat) (xs : List α) : Prop :=
  xs.length = n ∧ (n = 0 ∨ ∃ b off, a = some ⟨b, off, none⟩ ∧ ∀ i x, xs[i]? = some x → ∀ r u, (K.f x)[r]? = some u → w.cell? ⟨b, off + i * K.sz + r, none⟩ = some u)
/-- v is a slice of these, nil or at the head of a block from B on that the call has made. -/
def Own (t : TypeId) (w : World) (B : Nat) (v : Value) (xs : List α) : Prop := w.ownsRow B t K.sz v xs.length (K.cells xs)
end Kin
section
variable {α : Type} {K : Kin α} {t : TypeId} {w w' : World} {B : Nat} {v : Value} {xs : List α}
theorem Kin.See.nil (w : World) (a : Option Addr) : K.See w a 0 [] := ⟨rfl, .inl rfl⟩
theorem Kin.See.at {a : Option Addr} {n : Nat} (h : K.See w a n xs) (hE : Ext w w') (hn : 0 < n) : ∃ b off, a = some ⟨b, off, none⟩ ∧ b < w.heap.size ∧ ∀ i x, xs[i]? = some x → ∀ r u, (K.f x)[r]? = some u → w'.cell? ⟨b, off + i * K.sz + r, none⟩ = some u := by
  rcases h.2 with h0 | ⟨b, off, rfl, hc⟩
  · omega
  · have hb : b < w.heap.size := by
      have h0 : 0 < xs.length := by rw [h.1]; exact hn
      have hf : 0 < (K.f xs[0]).length := by rw [K.len]; exact K.pos
      exact World.block_lt_of_cell? w _ (hc 0 xs[0] (List.getElem?_eq_getElem h0) 0 _ (List.getElem?_eq_getElem hf))
    exact ⟨b, off, rfl, hb, fun i x hx r u hu => (Below.cell hE (p := ⟨b, off + i * K.sz + r, none⟩) hb).trans (hc i x hx r u hu)⟩
theorem Kin.See.ext {a : Option Addr} {n : Nat} (h : K.See w a n xs) (hE : Ext w w') : K.See w' a n xs := by
  refine ⟨h.1, ?_⟩
  rcases Nat.eq_zero_or_pos n with h0 | h0
  · exact .inl h0
  · obtain ⟨b, off, rfl, _, hc⟩ := h.at hE h0
    exact .inr ⟨b, off, rfl, hc⟩
theorem Kin.See.block {b off n : Nat} (h : K.See w (some ⟨b, off, none⟩) n xs) (hn : 0 < n) : b < w.heap.size := by
  obtain ⟨b', off', he, hb, _⟩ := h.at (Ext.refl w) hn
  cases he
  exact hb
/-- Only one block has turned: what lies elsewhere is shown as it was. -/
theorem Kin.See.only {a : Option Addr} {n g : Nat} (h : K.See w a n xs) (hb : w.grownBy w' (some g)) (hg : ∀ p, a = some p → p.block ≠ g) : K.See w' a n xs := by
  refine ⟨h.1, ?_⟩
  rcases Nat.eq_zero_or_pos n with h0 | h0
  · exact .inl h0
  · obtain ⟨b, off, rfl, hbl, hc⟩ := h.at (Ext.refl w) h0
    refine .inr ⟨b, off, rfl, fun i x hx r u hu => ?_⟩
    rw [World.cell?_of_block (hb.block b hbl (fun e => hg _ rfl (Option.some.inj e)))]
    exact hc i x hx r u hu
theorem Kin.See.below {C : Nat} {a : Option Addr} {n : Nat} (h : K.See w a n xs) (hb : Below C w w') (hC : ∀ p, a = some p → p.block < C) : K.See w' a n xs := by
  refine ⟨h.1, ?_⟩
  rcases h.2 with h0 | ⟨b, off, rfl, hc⟩
  · exact .inl h0
  · exact .inr ⟨b, off, rfl, fun i x hx r u hu => (Below.cell hb (p := ⟨b, off + i * K.sz + r, none⟩) (hC ⟨b, off, none⟩ rfl)).trans (hc i x hx r u hu)⟩
theorem Kin.See.take {a : Option Addr} {n : Nat} (h : K.See w a n xs) (k : Nat) (hk : k ≤ n) : K.See w a k (xs.take k) := by
  refine ⟨by rw [List.length_take, h.1]; omega, ?_⟩
  rcases h.2 with h0 | ⟨b, off, rfl, hc⟩
  · exact .inl (by omega)
  · exact .inr ⟨b, off, rfl, fun i x hx => hc i x (by
      rw [List.getElem?_take] at hx
      split at hx
      · exact hx
      · cases hx)⟩
theorem Kin.See.drop {b off n : Nat} (h : K.See w (some ⟨b, off, none⟩) n xs) (k : Nat) : K.See w (some ⟨b, off + k * K.sz, none⟩) (n - k) (xs.drop k) := by
  refine ⟨by rw [List.length_drop, h.1], ?_⟩
  rcases h.2 with h0 | ⟨b', off', hb, hc⟩
  · exact .inl (by omega)
  · cases hb
    refine .inr ⟨b, _, rfl, fun i x hx r u hu => ?_⟩
    rw [List.getElem?_drop] at hx
    have := hc (k + i) x hx r u hu
    rwa [show off + (k + i) * K.sz + r = off + k * K.sz + i * K.sz + r from by rw [Nat.add_mul]; omega] at this
theorem Kin.See.tail {b off n : Nat} (h : K.See w (some ⟨b, off, none⟩) n xs) (k c : Nat) (hc : n ≤ c) :
    K.See w (if c = k then some ⟨b, off, none⟩ else some ⟨b, off + k * K.sz, none⟩) (n - k) (xs.drop k) := by
  by_cases hk : c = k
  · rw [if_pos hk]
    exact ⟨by rw [List.length_drop, h.1], .inl (by omega)⟩
  · rw [if_neg hk]
    exact h.drop k
/-- What lies in a block is shown. -/
theorem Kin.See.blk {g : Nat} {cs : Array Value} (h : Blk w g t cs) (hc : cs.toList = K.cells xs) : K.See w (some ⟨g, 0, none⟩) xs.length xs :=
  ⟨rfl, .inr ⟨g, 0, rfl, fun i x hx r u hu => by
    have hr : r < K.sz := by have := (List.getElem?_eq_some_iff.1 hu).1; rwa [K.len] at this
    rw [h.cells, ← Array.getElem?_toList, hc, Nat.zero_add, K.cells_at xs i r x hx hr]
    exact hu⟩⟩

theorem Kin.Own.nil (w : World) (B : Nat) : K.Own t w B (.slice none 0 0) [] := by
  have := World.ownsRow_nil w B t K.sz
  exact this
theorem Kin.Own.lt (h : K.Own t w B v xs) : ∀ k, v.ownBlock = some k → B ≤ k ∧ k < w.heap.size := World.ownsRow.lt h
theorem Kin.Own.ext (h : K.Own t w B v xs) (hb : Ext w w') : K.Own t w' B v xs := by
  have hC := h.lt
  refine ⟨h.1, ?_⟩
  rcases h.2 with hn | ⟨g, cap, cur, rfl, hg, hh, rest⟩
  · exact .inl hn
  · exact .inr ⟨g, cap, cur, rfl, hg, by rw [Below.block hb g (hC g rfl).2]; exact hh, rest⟩
theorem Kin.Own.keep {C : Nat} (h : K.Own t w B v xs) (hb : Below C w w') (hC : ∀ k, v.ownBlock = some k → k < C) : K.Own t w' B v xs := by
  refine ⟨h.1, ?_⟩
  rcases h.2 with hn | ⟨g, cap, cur, rfl, hg, hh, rest⟩
  · exact .inl hn
  · exact .inr ⟨g, cap, cur, rfl, hg, by rw [hb.block g (hC g rfl)]; exact hh, rest⟩
theorem Kin.Own.rowed {row : Option Nat} (h : K.Own t w B v xs) (hb : w.grownBy w' row) (hC : ∀ k, v.ownBlock = some k → some k ≠ row) : K.Own t w' B v xs := by
  have hL := h.lt
  refine ⟨h.1, ?_⟩
  rcases h.2 with hn | ⟨g, cap, cur, rfl, hg, hh, rest⟩
  · exact .inl hn
  · exact .inr ⟨g, cap, cur, rfl, hg, by rw [hb.block g (hL g rfl).2 (hC g rfl)]; exact hh, rest⟩
theorem Kin.Own.mono {B' : Nat} (h : K.Own t w B v xs) (hB : B' ≤ B) : K.Own t w B' v xs := by
  refine ⟨h.1, ?_⟩
  rcases h.2 with hn | ⟨g, cap, cur, rfl, hg, hh, rest⟩
  · exact .inl hn
  · exact .inr ⟨g, cap, cur, rfl, by omega, hh, rest⟩
theorem Kin.Own.open (h : K.Own t w B v xs) : ∃ a cap, v = .slice a xs.length cap ∧ xs.length ≤ cap ∧ K.See w a xs.length xs ∧ (∀ k, (Value.slice a xs.length cap).ownBlock = some k → B ≤ k ∧ k < w.heap.size) ∧ (∀ p, a = some p → B ≤ p.block ∧ p.block < w.heap.size) := by
  have h0 := h
  have hlt := h.lt
  obtain ⟨h1, h2⟩ := h
  rcases h2 with ⟨rfl, hn⟩ | ⟨g, cap, cur, rfl, hg, hh, hnc, hcap, hsz, htake⟩
  · have : xs = [] := List.length_eq_zero_iff.1 hn
    subst this
    exact ⟨none, 0, rfl, Nat.le_refl _, Kin.See.nil w _, hlt, fun p hp => by cases hp⟩
  · refine ⟨_, cap, rfl, hnc, ⟨rfl, .inr ⟨g, 0, rfl, fun i x hx r u hu => ?_⟩⟩, hlt, fun p hp => by cases hp; exact hlt g rfl⟩
    have hr : r < K.sz := by have := (List.getElem?_eq_some_iff.1 hu).1; rwa [K.len] at this
    have hat := K.cells_at xs i r x hx hr
    rw [hu] at hat
    have := World.ownsRow.cells (g := g) h0 rfl (i * K.sz + r) _ hat
    rw [Addr.add_lit] at this
    rw [← this]
    congr 2
    omega
theorem Kin.Own.read (h : K.Own t w B v xs) : ∃ a n cap, v = .slice a n cap ∧ n ≤ cap ∧ K.See w a n xs := by
  obtain ⟨a, cap, hv, hc, hs, _⟩ := h.open
  exact ⟨a, _, cap, hv, hc, hs⟩
end
/-- append to what the call owns: at the operation. -/
theorem wp_appK {α : Type} (K : Kin α) (sl t : TypeId) (z : Value) (bz : Nat) (hU : Tryz.prog.underlying sl = some (.slice t)) (hI : (Tryz.prog.info? t).map (fun i => (i.zero, i.size, i.bytes)) = some (some z, K.sz, bz))
    (hz : z.cells.size = K.sz) (hby : bz ≤ 65536) {w : World} {o : Oper} {a : Act} {N : Act → World → Prop} {Q : Exit → Act → World → Prop} (s x : Operand)
    (ho : o.op = .call { callee := .builtin .append, args := #[s, x], argTypes := #[sl, sl] })
    (B : Nat) (v : Value) (ys : List α) (hs : a.eval s = v) (hown : K.Own t w B v ys) (ao : Option Addr) (m c : Nat) (xs : List α) (hx : a.eval x = .slice ao m c) (hr : K.See w ao m xs)
    (hmax : ys.length + m ≤ 1073741824) (hbase : B ≤ w.heap.size)
    (h : ∀ v' w', K.Own t w' B v' (ys ++ xs) → w.grownBy w' v.ownBlock → Below B w w' → N (a.put o.dst v') w') : o.wp Tryz.prog a w N Q := by
  obtain ⟨i0, hi, hz0, hz1, hz2⟩ := info_parts hI
  have hl : (K.cells xs).length = m * K.sz := by rw [K.cells_length, hr.1]
  have hb : (ys.length + m) * bz ≤ 140737488355328 := Nat.le_trans (Nat.mul_le_mul hmax hby) (by decide)
  rcases hr.2 with h0 | ⟨b, off, rfl, hc⟩
  · subst h0
    obtain rfl : xs = [] := List.length_eq_zero_iff.1 hr.1
    cases ao with
    | none =>
      refine wp_append_own_none0 s x _ ho B _ i0 K.sz hU hi v _ (K.cells ys) c hs hown hx (h v w ?_ (World.grownBy.refl _ _) (Below.refl B w))
      simpa using hown
    | some ad =>
      refine wp_append_own w s x _ ho B _ i0 _ K.sz bz hU hi hz0 hz1 hz2 hz K.pos v _ (K.cells ys) hs hown ad 0 c [] hx (by simp) (fun _ _ h => by simp at h) (fun _ h => by cases h) (by unfold maxLen; omega) hb hbase ?_
      intro v' w' ho' hg _
      exact h v' w' (by unfold Kin.Own; simpa using ho') hg ((Below.refl B w).grown hg hbase fun k hk => (hown.lt k hk).1)
  · refine wp_append_own w s x _ ho B _ i0 _ K.sz bz hU hi hz0 hz1 hz2 hz K.pos v _ (K.cells ys) hs hown ⟨b, off, none⟩ m c (K.cells xs) hx hl ?_ (K.cells_one xs) (by unfold maxLen; omega) hb hbase ?_
    · intro j u hj
      have hlt : j < m * K.sz := by have := (List.getElem?_eq_some_iff.1 hj).1; omega
      have hi6 : j / K.sz < xs.length := by rw [hr.1]; exact (Nat.div_lt_iff_lt_mul K.pos).2 hlt
      have hmod := Nat.mod_lt j K.pos
      have hdm : j / K.sz * K.sz + j % K.sz = j := by rw [Nat.mul_comm]; exact Nat.div_add_mod j K.sz
      have hat := K.cells_at xs (j / K.sz) (j % K.sz) _ (List.getElem?_eq_getElem hi6) hmod
      rw [hdm, hj] at hat
      have := hc (j / K.sz) _ (List.getElem?_eq_getElem hi6) (j % K.sz) u hat.symm
      rw [Addr.add_lit]
      rwa [Nat.add_assoc, hdm] at this
    · intro v' w' ho' hg _
      refine h v' w' ?_ hg ((Below.refl B w).grown hg hbase fun k hk => (hown.lt k hk).1)
      unfold Kin.Own
      rw [List.length_append, hr.1, ← K.cells_append]
      exact ho'
theorem appK {α : Type} (K : Kin α) (sl t : TypeId) (z : Value) (bz : Nat) (hU : Tryz.prog.underlying sl = some (.slice t)) (hI : (Tryz.prog.info? t).map (fun i => (i.zero, i.size, i.bytes)) = some (some z, K.sz, bz))
    (hz : z.cells.size = K.sz) (hby : bz ≤ 65536) {w : World} {ops : Array Oper} {rest : List Oper} {o : Oper} {a : Act} {Q : Exit → Act → World → Prop} (hgd : o.guard = none) (s x : Operand)
    (ho : o.op = .call { callee := .builtin .append, args := #[s, x], argTypes := #[sl, sl] })
    (B : Nat) (v : Value) (ys : List α) (hs : a.eval s = v) (hown : K.Own t w B v ys) (ao : Option Addr) (m c : Nat) (xs : List α) (hx : a.eval x = .slice ao m c) (hr : K.See w ao m xs)
    (hmax : ys.length + m ≤ 1073741824) (hbase : B ≤ w.heap.size)
    (h : ∀ v' w', K.Own t w' B v' (ys ++ xs) → w.grownBy w' v.ownBlock → Below B w w' → wpList Tryz.prog ops Q rest (a.put o.dst v') w') : wpList Tryz.prog ops Q (o :: rest) a w :=
  wpList_plain hgd fun _ hK => wp_appK K sl t z bz hU hI hz hby s x ho B v ys hs hown ao m c xs hx hr hmax hbase fun v' w' h1 h2 h3 => hK _ _ (h v' w' h1 h2 h3)
end Go.Proofs.YtonjifkjammopaaGreatDoor
