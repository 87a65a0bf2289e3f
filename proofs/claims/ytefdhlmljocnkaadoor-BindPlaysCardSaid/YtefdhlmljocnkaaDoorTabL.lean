/- A table of binds behind a Use, in plain terms. Conditions: as each lemma states them. -/
import Derived.Test.YtefdhlmljocnkaaDoorTabV
namespace Go.Proofs.YtefdhlmljocnkaaDoor
open Go.RowKit
/-- The entries when the i-th bind is used. -/
def useT (l : List Te) (i : Nat) (now : Int) : List Te := l.modify i fun x => { x with b := x.b.at now }
theorem useT_inF (l : List Te) (i : Nat) (now : Int) : (useT l i now).map Te.inF = l.map Te.inF := by
  unfold useT
  refine List.ext_getElem? fun j => ?_
  rw [List.getElem?_map, List.getElem?_map, List.getElem?_modify]
  by_cases hj : i = j
  · subst hj
    cases l[i]? <;> simp [Te.inF, Bd.at]
  · simp [hj]
theorem useT_inN (l : List Te) (i : Nat) (now : Int) (b : Bd) (x : Te) (hx : l[i]? = some x) (hb : x.b = b) : (useT l i now).map Te.inN = setVal (l.map Te.inN) i (b.at now).v := by
  unfold useT setVal
  refine List.ext_getElem? fun j => ?_
  rw [List.getElem?_map, List.getElem?_modify, List.getElem?_modify, List.getElem?_map]
  by_cases hj : i = j
  · subst hj
    subst hb
    simp [hx, Te.inN, Bd.at]
  · simp [hj]
/-- The table behind a Use. -/
theorem Tab.use {w W : World} {gT gP gB gF gN : Nat} {s : PS} {l : List Te} {cF cN : Nat} (h : Tab w gT gP gB gF gN s l cF cN) (E : Ext w W) (i : Nat) (now : Int) (x : Te) (hx : l[i]? = some x) :
    Tab (putMap keyI W gN (setVal (l.map Te.inN) i (x.b.at now).v) cN) gT gP gB gF gN s (useT l i now) cF cN := by
  have ha := h.apart
  simp at ha
  have hG := putMap_grown keyI W gN (setVal (l.map Te.inN) i (x.b.at now).v) cN
  have hN := (h.nears.ext E).put (setVal (l.map Te.inN) i (x.b.at now).v) cN (fun y hy => by
    obtain ⟨j, hj⟩ := List.mem_iff_getElem?.1 hy
    unfold setVal at hj
    rw [List.getElem?_modify] at hj
    cases hq : (l.map Te.inN)[j]? with
    | none => simp [hq] at hj
    | some q =>
      have := h.nears.old q (List.mem_of_getElem? hq)
      rw [hq] at hj
      split at hj <;> (simp at hj; subst hj; exact this))
  refine ⟨(putMap_other keyI W gN _ cN (by omega)).trans (h.ptr.ext E), (h.prt.ext E).only hG (by simp; omega) (by simp; omega), ?_, ?_, h.apart⟩
  · rw [useT_inF]
    exact (h.flows.ext E).only hG (by simp; omega)
  · rw [useT_inN l i now x.b x hx rfl]
    exact hN
end Go.Proofs.YtefdhlmljocnkaaDoor
