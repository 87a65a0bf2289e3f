/- addr.Check, addr.Raw at an address that is one or is none. Conditions: as each theorem states them. -/
import Derived.Test.YtapmbjmcbllalaaDoorSix
namespace Go.Proofs.YtapmbjmcbllalaaDoor
open Go.RowKit
def okS (s : Six) : Bool := words s.l
theorem check6_no (s : Six) (w : World) (h : okS s = false) : Calls Tryd.prog 28 #[s.v] w fun e w' => e = .returned (errv 1) ∧ Ext w w' :=
  (check6_any s w).mono fun _ _ ⟨he, hx⟩ => ⟨by rw [he, wordsErr_no h], hx⟩
theorem check6_yes (s : Six) (w : World) (h : okS s = true) : Calls Tryd.prog 28 #[s.v] w fun e w' => e = .returned .nilIface ∧ Ext w w' :=
  (check6_any s w).mono fun _ _ ⟨he, hx⟩ => ⟨by rw [he, wordsErr_yes h], hx⟩
theorem Six.isB {s : Six} (h : okS s = true) : Pl.IsB (Pl.two s.l) := Pl.two_isB (fun x hx => by
  obtain ⟨i, hi, rfl⟩ := List.getElem_of_mem hx
  have := Six.Ok.at (s := s) h i
  simpa [List.getD, hi] using this)

end Go.Proofs.YtapmbjmcbllalaaDoor
