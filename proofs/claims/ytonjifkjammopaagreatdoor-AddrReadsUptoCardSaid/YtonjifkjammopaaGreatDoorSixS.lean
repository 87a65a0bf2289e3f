/- addr.Check, addr.Raw at an address that is one or is none. Conditions: as each theorem states them. -/
import Derived.Test.YtonjifkjammopaaGreatDoorSix
namespace Go.Proofs.YtonjifkjammopaaGreatDoor
open Go.RowKit
def okS (s : Six) : Bool := words s.l
theorem check6_no (s : Six) (w : World) (h : okS s = false) : Calls Tryz.prog 8 #[s.v] w fun e w' => e = .returned (errv 1) ∧ Ext w w' :=
  (check6_any s w).mono fun _ _ ⟨he, hx⟩ => ⟨by rw [he, wordsErr_no h], hx⟩
theorem check6_yes (s : Six) (w : World) (h : okS s = true) : Calls Tryz.prog 8 #[s.v] w fun e w' => e = .returned .nilIface ∧ Ext w w' :=
  (check6_any s w).mono fun _ _ ⟨he, hx⟩ => ⟨by rw [he, wordsErr_yes h], hx⟩
theorem raw6_x (s : Six) (w : World) (h : okS s = true) : Calls Tryz.prog 25 #[.agg #[.int .i64 s.x0, .int .i64 s.x1, .int .i64 s.x2, .int .i64 s.x3, .int .i64 s.x4, .int .i64 s.x5, .int .i64 s.x6, .int .i64 s.x7]] w fun e w' => ∃ v, e = .returned v ∧ Own w' w.heap.size v (Pl.two s.l) ∧ Ext w w' := raw6_any s w h
theorem Six.isB {s : Six} (h : okS s = true) : Pl.IsB (Pl.two s.l) := Pl.two_isB (fun x hx => by
  obtain ⟨i, hi, rfl⟩ := List.getElem_of_mem hx
  have := Six.Ok.at (s := s) h i
  simpa [List.getD, hi] using this)

end Go.Proofs.YtonjifkjammopaaGreatDoor
