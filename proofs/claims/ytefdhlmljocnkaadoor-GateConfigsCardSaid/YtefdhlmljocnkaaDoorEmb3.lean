/- package embed: Into. Conditions: as each theorem states them. -/
import Derived.Test.YtefdhlmljocnkaaDoorEmb2
import Derived.Test.YtefdhlmljocnkaaDoorRnd
import Derived.Test.YtefdhlmljocnkaaDoorStore
import Derived.Test.YtefdhlmljocnkaaDoorAddr
namespace Go.Proofs.YtefdhlmljocnkaaDoor
open Go.RowKit Go.Shelf
attribute [local go_sem] Oper.semAt_some
section
variable {W W' : World} {row : Option Nat}
theorem kept_row {g : Nat} {cs : Array Value} {t : TypeId} (h : Blk W g t cs) (hg : W.grownBy W' row) (hr : ∀ r, row = some r → ∃ o : Obj, W.heap[r]? = some o ∧ o.isCells = false) : Blk W' g t cs := by
  refine (hg.block g h.lt (fun e => ?_)).trans h
  obtain ⟨o, ho, hc⟩ := hr g (by first | exact e | exact e.symm)
  rw [show W.heap[g]? = _ from h] at ho
  cases ho
  cases hc
theorem kept_ints {k : IntKind} {a : Option Addr} {n : Nat} {xs : List Int} (h : Ints k W a n xs) (hg : W.grownBy W' row) (hr : ∀ r, row = some r → ∃ o : Obj, W.heap[r]? = some o ∧ o.isCells = false) : Ints k W' a n xs := by
  refine ⟨h.1, ?_⟩
  rcases h.2 with h0 | ⟨b, off, rfl, hc⟩
  · exact .inl h0
  · exact .inr ⟨b, off, rfl, fun i hi => cell_kept (hc i hi) hg hr⟩
theorem kept_own {B : Nat} {v : Value} {xs : List Int} (h : Own W B v xs) (hg : W.grownBy W' row) (hr : ∀ r, row = some r → ∃ o : Obj, W.heap[r]? = some o ∧ o.isCells = false) : Own W' B v xs := by
  refine ⟨h.1, ?_⟩
  rcases h.2 with hn | ⟨g, cap, cur, rfl, hb, hh, rest⟩
  · exact .inl hn
  · exact .inr ⟨g, cap, cur, rfl, hb, kept_row hh hg hr, rest⟩
end
namespace Pl
/-- Bytes with those of a four at their places. -/
def put (b f : List Int) (pre : List (Fin 4 × Fin 16)) : List Int := pre.foldl (fun b p => b.set p.2.val (f.getD p.1.val 0)) b
theorem put_snoc (b f : List Int) (pre : List (Fin 4 × Fin 16)) (p : Fin 4 × Fin 16) : put b f (pre ++ [p]) = (put b f pre).set p.2.val (f.getD p.1.val 0) := by simp [put]
theorem put_length (b f : List Int) (pre : List (Fin 4 × Fin 16)) : (put b f pre).length = b.length := by
  induction pre generalizing b with
  | nil => rfl
  | cons p r ih => show (put (b.set p.2.val (f.getD p.1.val 0)) f r).length = _; rw [ih, List.length_set]
theorem put_isB {b f : List Int} (hb : IsB b) (hf : IsB f) (pre : List (Fin 4 × Fin 16)) : IsB (put b f pre) := by
  induction pre generalizing b with
  | nil => exact hb
  | cons p r ih =>
    refine ih (b := b.set p.2.val (f.getD p.1.val 0)) fun x hx => ?_
    rcases List.mem_or_eq_of_mem_set hx with h | h
    · exact hb x h
    · rw [h]; exact hf.getD _
end Pl

end Go.Proofs.YtefdhlmljocnkaaDoor
