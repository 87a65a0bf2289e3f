/- Maps ranged over, by their entries. Conditions: as each lemma states them. -/
import Derived.Test.YtefdhlmljocnkaaDoorKp
import Derived.Test.YtefdhlmljocnkaaDoorMapE
import Derived.Maps.RangeRun
namespace Go.Proofs.YtefdhlmljocnkaaDoor
open Go.RowKit
/-- An iterator of map g: since when, which stamps have come. -/
def It (w : World) (r g since : Nat) (seen : List Nat) : Prop := ∃ c0, since ≤ c0 ∧ w.heap[r]? = some (.mapIter (some g) since seen.toArray c0)
section
variable {w w' : World} {r g since : Nat} {seen : List Nat} {S : List Nat}
theorem It.lt (h : It w r g since seen) : r < w.heap.size := by
  obtain ⟨c, _, h⟩ := h
  exact (Array.getElem?_eq_some_iff.1 h).1
theorem It.kp (h : It w r g since seen) (k : Kp S w w') (hr : r ∉ S) : It w' r g since seen := by
  have hl := h.lt
  obtain ⟨c, hc, h⟩ := h
  exact ⟨c, hc, (k.block r hl hr).trans h⟩
theorem It.ext (h : It w r g since seen) (k : Ext w w') : It w' r g since seen := h.kp (k.kp []) (by simp)
theorem It.grown {row : Option Nat} (h : It w r g since seen) (k : w.grownBy w' row) (hr : some r ≠ row) : It w' r g since seen := by
  have hl := h.lt
  obtain ⟨c, hc, h⟩ := h
  exact ⟨c, hc, (k.block r hl hr).trans h⟩
theorem Kp.grown1 {a b : World} (h : Kp [r] a b) : a.grownBy b (some r) := ⟨h.os, h.tape, h.output, h.size, fun i hi hne => h.block i hi (by simp; exact fun e => hne (by rw [e]))⟩
/-- How many entries have come. -/
def itSeen (w : World) (r : Nat) : Nat := match w.heap[r]? with | some (.mapIter _ _ seen _) => seen.size | _ => 0
theorem It.count (h : It w r g since seen) : itSeen w r = seen.length := by
  obtain ⟨c, _, h⟩ := h
  unfold itSeen
  rw [h]
  simp
variable {κ : Type} {K : Keys κ} {l : List (Ent κ)} {clock : Nat}
theorem MapIs.range (h : MapIs K w g l clock) (mt e : TypeId) (hm : Tryd.prog.underlying mt = some (.map K.t e)) :
    (Instr.range mt (.map (some g))).run Tryd.prog w = .ok (.pointer (some ⟨w.heap.size, 0, none⟩)) (w.alloc (.mapIter (some g) clock #[] clock)) := run_range_map w mt K.t e g _ clock hm h.here
theorem It.new (w : World) (g clock : Nat) : It (w.alloc (.mapIter (some g) clock #[] clock)) w.heap.size g clock [] := ⟨clock, Nat.le_refl _, heap_alloc_new w _⟩
theorem MapIs.next (h : MapIs K w g l clock) (hi : It w r g since seen) (hrg : r ≠ g) (hold : ∀ x ∈ l, x.born < since) (hsc : since ≤ clock) (hn : (l.map (·.born)).Nodup) (ty : TypeId) :
    ((∀ x ∈ l, x.born ∈ seen) ∧ (Instr.next (.pointer (some ⟨r, 0, none⟩)) false ty).run Tryd.prog w = .ok (.tuple #[.bool false]) w) ∨
    ∃ x ∈ l, x.born ∉ seen ∧ ∃ w', (Instr.next (.pointer (some ⟨r, 0, none⟩)) false ty).run Tryd.prog w = .ok (.tuple #[.bool true, K.f x.key, x.val]) w' ∧ It w' r g since (seen ++ [x.born]) ∧ Kp [r] w w' ∧
      (Instr.entry (.pointer (some ⟨r, 0, none⟩))).run Tryd.prog w' = .ok (.tuple #[K.f x.key, x.val]) w' := by
  have hr := hi.lt
  obtain ⟨c0, hc, hit⟩ := hi
  rcases run_next_at w ty r g since c0 seen.toArray _ clock hit h.here (fun x hx => by
    obtain ⟨y, hy, rfl⟩ := List.mem_map.1 hx
    exact hold y hy) hc with ⟨h0, hrun⟩ | ⟨e, he, w1, hw1, hrun⟩
  · left
    refine ⟨fun x hx => ?_, hrun⟩
    have h0' : leftOf (l.map K.ent).toArray seen.toArray = #[] := Array.eq_empty_of_size_eq_zero h0
    unfold leftOf at h0'
    rw [Array.filter_eq_empty_iff] at h0'
    have := h0' (K.ent x) (by simpa using ⟨x, hx, rfl⟩)
    simpa [Keys.ent] using this
  · right
    unfold leftOf at he
    have he' : e ∈ (l.map K.ent).toArray ∧ (!seen.toArray.contains e.born) = true := by simpa using he
    obtain ⟨hm, hs⟩ := he'
    have hm' : e ∈ l.map K.ent := by simpa using hm
    obtain ⟨x, hx, rfl⟩ := List.mem_map.1 hm'
    have hb1 : w1.heap = w.heap := by rcases hw1 with rfl | rfl <;> rfl
    have hbl : ∀ i, i ≠ r → (Go.ChangeMaps.setBlock w1 r (.mapIter (some g) since (seen.toArray.push (K.ent x).born) clock)).heap[i]? = w.heap[i]? := fun i hi => by
      show (w1.heap.setIfInBounds r _)[i]? = _
      rw [Array.getElem?_setIfInBounds_ne (fun e => hi e.symm), hb1]
    have hat : (Go.ChangeMaps.setBlock w1 r (.mapIter (some g) since (seen.toArray.push (K.ent x).born) clock)).heap[r]? = some (.mapIter (some g) since (seen.toArray.push (K.ent x).born) clock) := by
      show (w1.heap.setIfInBounds r _)[r]? = _
      rw [Array.getElem?_setIfInBounds_self, hb1, if_pos hr]
    refine ⟨x, hx, by simpa [Keys.ent] using hs, _, hrun, ⟨clock, hsc, ?_⟩, ⟨?_, ?_, ?_, ?_, ?_⟩, ?_⟩
    · rw [hat]
      simp [Keys.ent]
    · rcases hw1 with rfl | rfl <;> rfl
    · rcases hw1 with rfl | rfl <;> rfl
    · rcases hw1 with rfl | rfl <;> rfl
    · show w.heap.size ≤ (w1.heap.setIfInBounds r _).size
      rw [Array.size_setIfInBounds, hb1]
      exact Nat.le_refl _
    · exact fun i _ hi => hbl i (by simpa using hi)
    · refine run_entry_at _ r g since seen.toArray _ clock (K.ent x) hat ((hbl g (fun e => hrg e.symm)).trans h.here) (by simpa using ⟨x, hx, rfl⟩) ?_
      rw [show ((l.map K.ent).toArray.toList.map (·.born)) = l.map (·.born) by simp [Keys.ent, Function.comp_def]]
      exact hn
variable {ops : Array Oper} {rest : List Oper} {o : Oper} {a : Act} {Q : Exit → Act → World → Prop}
/-- 'range m' in a walk. -/
theorem at_map (hg : o.guard = none) (m : Operand) (t e : TypeId) (hop : o.op = Op.range t m) (h : MapIs K w g l clock) (hm : a.eval m = .map (some g)) (hu : Tryd.prog.underlying t = some (.map K.t e))
    (hK : ∀ w', It w' w.heap.size g clock [] → Ext w w' → w'.heap.size = w.heap.size + 1 → wpList Tryd.prog ops Q rest (a.put o.dst (.pointer (some ⟨w.heap.size, 0, none⟩))) w') : wpList Tryd.prog ops Q (o :: rest) a w := by
  refine wpList_plain hg fun K' hK' => ?_
  have hrun := h.range t e hu
  unfold Oper.wp
  simp [execOp, hop, hm, hrun, Result.andThen]
  exact hK' _ _ (hK _ (It.new w g clock) ((Ext.refl w).alloc _) (Array.size_push _))
/-- A range loop's step in a walk. -/
theorem at_nextmap (hg : o.guard = none) (it : Operand) (hop : o.op = Op.next it false) (hit : a.eval it = .pointer (some ⟨r, 0, none⟩)) (h : MapIs K w g l clock) (hi : It w r g since seen) (hrg : r ≠ g) (hold : ∀ x ∈ l, x.born < since) (hsc : since ≤ clock) (hn : (l.map (·.born)).Nodup)
    (hDone : (∀ x ∈ l, x.born ∈ seen) → wpList Tryd.prog ops Q rest (a.put o.dst (.tuple #[.bool false])) w)
    (hMore : ∀ x w', x ∈ l → x.born ∉ seen → It w' r g since (seen ++ [x.born]) → Kp [r] w w' → (Instr.entry (.pointer (some ⟨r, 0, none⟩))).run Tryd.prog w' = .ok (.tuple #[K.f x.key, x.val]) w' → wpList Tryd.prog ops Q rest (a.put o.dst (.tuple #[.bool true, K.f x.key, x.val])) w') :
    wpList Tryd.prog ops Q (o :: rest) a w := by
  refine wpList_plain hg fun K' hK' => ?_
  unfold Oper.wp
  rcases h.next hi hrg hold hsc hn o.type with ⟨h0, hrun⟩ | ⟨x, hx, hs, w', hrun, h1, h2, h3⟩
  · simp [execOp, hop, hit, hrun, Result.andThen]
    exact hK' _ _ (hDone h0)
  · simp [execOp, hop, hit, hrun, Result.andThen]
    exact hK' _ _ (hMore x w' hx hs h1 h2 h3)
end
end Go.Proofs.YtefdhlmljocnkaaDoor
