/- append of bytes just made, with where the outcome lies. Conditions: as each lemma states them. -/
import Derived.Test.YtonjifkjammopaaGreatDoorMem
import Derived.Deep.AppendLies
namespace Go.Proofs.YtonjifkjammopaaGreatDoor
open Go.RowKit

theorem Ints.keepBy {k : IntKind} {w w' : World} {a : Option Addr} {n : Nat} {xs : List Int} {row : Option Nat} (h : Ints k w a n xs) (hb : w.grownBy w' row) (hg : ∀ p, a = some p → some p.block ≠ row) : Ints k w' a n xs := by
  refine ⟨h.1, ?_⟩
  rcases h.2 with h0 | ⟨b, off, rfl, hc⟩
  · exact .inl h0
  · refine .inr ⟨b, off, rfl, fun i hi => ?_⟩
    have := hc i hi
    rw [World.cell?_of_block (hb.block b (World.block_lt_of_cell? w _ this) (hg _ rfl))]
    exact this

theorem getD_all2 {xs : List Int} (h : ∀ x ∈ xs, 0 ≤ x ∧ x ≤ 65535) (k : Nat) : 0 ≤ xs.getD k 0 ∧ xs.getD k 0 ≤ 65535 := by
  by_cases hk : k < xs.length
  · rw [List.getD_eq_getElem?_getD, List.getElem?_eq_getElem hk]
    exact h _ (List.getElem_mem hk)
  · rw [List.getD_eq_getElem?_getD, List.getElem?_eq_none (by omega)]
    exact ⟨Int.le_refl 0, by decide⟩

/-- At a step of a region that draws its order. -/
theorem step_appL {w : World} {ops : Array Oper} {o : Oper} {a : Act} {K : Act → World → Prop} {Q : Exit → Act → World → Prop} {E : Prop} (hgd : o.guard = none) (s x : Operand)
    (ho : o.op = .call { callee := .builtin .append, args := #[s, x], argTypes := #[27, 27] })
    (B : Nat) (v : Value) (ys : List Int) (hs : a.eval s = v) (hown : Own w B v ys) (b off m c : Nat) (xs : List Int) (hx : a.eval x = .slice (some ⟨b, off, none⟩) m c) (hr : Ints .u8 w (some ⟨b, off, none⟩) m xs)
    (hm : 0 < m) (hmax : ys.length + m ≤ 1099511627776) (hbase : B ≤ w.heap.size)
    (h : ∀ v' w', Own w' B v' (ys ++ xs) → Below B w w' → w.grownBy w' v.ownBlock → (∀ k, v'.ownBlock = some k → v.ownBlock = some k ∨ k = w.heap.size) → K (a.put o.dst v') w') :
    if Region.wanted o (yielded ops a.tmps) = true then Oper.wp Tryz.prog o a w K Q else E := by
  obtain ⟨i0, hi, hz0, hz1, hz2⟩ := info_parts Tryz.infoU8
  obtain ⟨b', off', hb, _, hc⟩ := hr.at hm
  simp only [Option.some.injEq, Addr.mk.injEq, and_true] at hb
  obtain ⟨rfl, rfl⟩ := hb
  have hl : (bcells xs).length = m * 1 := by rw [bcells_length, hr.len, Nat.mul_one]
  refine step_append_lies w hgd s x _ ho B _ i0 _ 1 1 Tryz.underlying27 hi hz0 hz1 hz2 rfl (by decide) v _ (bcells ys) hs hown ⟨b, off, none⟩ m c (bcells xs) hx hl ?_ (bcells_one xs) hm (by unfold maxLen; omega) (by omega) hbase _ rfl ?_
  · intro j u hj
    have hlt : j < m := by have := (List.getElem?_eq_some_iff.1 hj).1; rw [bcells_length, hr.len] at this; exact this
    have hlt' : j < xs.length := by rw [hr.len]; exact hlt
    rw [bcells, List.getElem?_map, List.getElem?_eq_getElem hlt'] at hj
    simp only [Option.map_some, Option.some.injEq] at hj
    rw [← hj]
    have := hc j hlt
    simp [List.getD, hlt'] at this
    rw [Addr.add_lit]
    exact this
  · intro g cap w' ho' hg hv _
    refine h _ w' ?_ ((Below.refl B w).grown hg hbase fun k hk => (hown.lt k hk).1) hg fun k hk => ?_
    · unfold Own
      rw [List.length_append, hr.len, ← bcells_append]
      exact ho'
    · cases hk
      exact hv
end Go.Proofs.YtonjifkjammopaaGreatDoor
