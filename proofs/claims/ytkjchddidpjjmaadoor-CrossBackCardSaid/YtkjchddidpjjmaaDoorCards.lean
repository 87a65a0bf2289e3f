/-
  DERIVED. GIVEN WITH THE SEED: THE CARDS: each row of YtkjchddidpjjmaaDoorRows.lean that lists a variable, with what it lists TIED to the program's text (the seventh form; the later family's looks); each row that meets fmt, with fmt's text TOLD by the authors' own Lean function (tested against real Go, not proved from fmt's source: count such statements apart). THE CARD IS WHAT COUNTS. Prove the row's statement (the work); the ties are given (YtkjchddidpjjmaaDoorTie.lean); close each card by the builder's one call (the guide's Derived/Test/ToyasCard.lean, 'card_holds'). Laid BY PROGRAM, IN A SANDBOX (cutbox-door.mjs). By AI agents, Wed Nov 11 2026. No macro, syntax, notation, axiom, sorry.
-/
import Derived.Test.YtkjchddidpjjmaaDoorRows
import GoSem.ClaimSeven
namespace Go.Proofs.YtkjchddidpjjmaaDoor
namespace Rows

/-- THE TIED CARD OF 'gangplanklaw1.EmbedIs'. -/
def embedIsCard : Claim7 := { stood := { row := embedIsRow, standIns := [], harness := (true, "99d994f36e63a2004ad79b73d94234d1779003e6fdb707ba24f8cf3b0b9cc397"), looks := true }, kinds := [], alts := [], laidByText := true, laidKinds := [.handle], laidTests := true, laidLooks := .later }
def EmbedIsCardSaid : Prop := Claim7.holds Tryd.pinned (.plain (OpenSpec.ofChange embedIsSpec)) embedIsCard

/-- THE TIED CARD OF 'gangplanklaw2.ShiftPlays'. -/
def shiftPlaysCard : Claim7 := { stood := { row := shiftPlaysRow, standIns := [], harness := (true, "99d994f36e63a2004ad79b73d94234d1779003e6fdb707ba24f8cf3b0b9cc397"), looks := true }, kinds := [], alts := [], laidByText := true, laidKinds := [.handle], laidTests := true, laidLooks := .later }
def ShiftPlaysCardSaid : Prop := Claim7.holds Tryd.pinned (.plain (OpenSpec.ofChange shiftPlaysSpec)) shiftPlaysCard

/-- THE TIED CARD OF 'gangplanklaw1.SegIs'. -/
def segIsCard : Claim7 := { stood := { row := segIsRow, standIns := [], harness := (true, "99d994f36e63a2004ad79b73d94234d1779003e6fdb707ba24f8cf3b0b9cc397"), looks := true }, kinds := [], alts := [], laidByText := true, laidKinds := [.handle], laidTests := true, laidLooks := .later }
def SegIsCardSaid : Prop := Claim7.holds Tryd.pinned (.plain (OpenSpec.ofChange segIsSpec)) segIsCard

/-- THE TIED CARD OF 'gangplanklaw1.SegBack'. -/
def segBackCard : Claim7 := { stood := { row := segBackRow, standIns := [], harness := (true, "99d994f36e63a2004ad79b73d94234d1779003e6fdb707ba24f8cf3b0b9cc397"), looks := true }, kinds := [], alts := [], laidByText := true, laidKinds := [.handle], laidTests := true, laidLooks := .later }
def SegBackCardSaid : Prop := Claim7.holds Tryd.pinned (.plain (OpenSpec.ofChange segBackSpec)) segBackCard

/-- THE TIED CARD OF 'gangplanklaw1.CrossIs'. -/
def crossIsCard : Claim7 := { stood := { row := crossIsRow, standIns := [], harness := (true, "99d994f36e63a2004ad79b73d94234d1779003e6fdb707ba24f8cf3b0b9cc397"), looks := true }, kinds := [], alts := [], laidByText := true, laidKinds := [.handle], laidTests := true, laidLooks := .later }
def CrossIsCardSaid : Prop := Claim7.holds Tryd.pinned (.plain (OpenSpec.ofChange crossIsSpec)) crossIsCard

/-- THE TIED CARD OF 'gangplanklaw1.CrossBack'. -/
def crossBackCard : Claim7 := { stood := { row := crossBackRow, standIns := [], harness := (true, "99d994f36e63a2004ad79b73d94234d1779003e6fdb707ba24f8cf3b0b9cc397"), looks := true }, kinds := [], alts := [], laidByText := true, laidKinds := [.handle], laidTests := true, laidLooks := .later }
def CrossBackCardSaid : Prop := Claim7.holds Tryd.pinned (.plain (OpenSpec.ofChange crossBackSpec)) crossBackCard

/-- THE SECOND FORM's CARD OF 'gangplanklaw1.EmbedIs'. -/
def embedIsUptoCard : Claim7 := { stood := { row := embedIsUptoRow, standIns := [], harness := (true, "99d994f36e63a2004ad79b73d94234d1779003e6fdb707ba24f8cf3b0b9cc397"), looks := true }, kinds := [], alts := [], laidByText := true, laidKinds := [.handle], laidTests := true, laidLooks := .later }
def EmbedIsUptoCardSaid : Prop := Claim7.holds Tryd.pinned (.plain (OpenSpec.upto embedIsSpec)) embedIsUptoCard

/-- THE SECOND FORM's CARD OF 'gangplanklaw2.ShiftPlays'. -/
def shiftPlaysUptoCard : Claim7 := { stood := { row := shiftPlaysUptoRow, standIns := [], harness := (true, "99d994f36e63a2004ad79b73d94234d1779003e6fdb707ba24f8cf3b0b9cc397"), looks := true }, kinds := [], alts := [], laidByText := true, laidKinds := [.handle], laidTests := true, laidLooks := .later }
def ShiftPlaysUptoCardSaid : Prop := Claim7.holds Tryd.pinned (.plain (OpenSpec.upto shiftPlaysSpec)) shiftPlaysUptoCard

/-- THE SECOND FORM's CARD OF 'gangplanklaw1.SegIs'. -/
def segIsUptoCard : Claim7 := { stood := { row := segIsUptoRow, standIns := [], harness := (true, "99d994f36e63a2004ad79b73d94234d1779003e6fdb707ba24f8cf3b0b9cc397"), looks := true }, kinds := [], alts := [], laidByText := true, laidKinds := [.handle], laidTests := true, laidLooks := .later }
def SegIsUptoCardSaid : Prop := Claim7.holds Tryd.pinned (.plain (OpenSpec.upto segIsSpec)) segIsUptoCard

/-- THE SECOND FORM's CARD OF 'gangplanklaw1.SegBack'. -/
def segBackUptoCard : Claim7 := { stood := { row := segBackUptoRow, standIns := [], harness := (true, "99d994f36e63a2004ad79b73d94234d1779003e6fdb707ba24f8cf3b0b9cc397"), looks := true }, kinds := [], alts := [], laidByText := true, laidKinds := [.handle], laidTests := true, laidLooks := .later }
def SegBackUptoCardSaid : Prop := Claim7.holds Tryd.pinned (.plain (OpenSpec.upto segBackSpec)) segBackUptoCard

/-- THE SECOND FORM's CARD OF 'gangplanklaw1.CrossIs'. -/
def crossIsUptoCard : Claim7 := { stood := { row := crossIsUptoRow, standIns := [], harness := (true, "99d994f36e63a2004ad79b73d94234d1779003e6fdb707ba24f8cf3b0b9cc397"), looks := true }, kinds := [], alts := [], laidByText := true, laidKinds := [.handle], laidTests := true, laidLooks := .later }
def CrossIsUptoCardSaid : Prop := Claim7.holds Tryd.pinned (.plain (OpenSpec.upto crossIsSpec)) crossIsUptoCard

/-- THE SECOND FORM's CARD OF 'gangplanklaw1.CrossBack'. -/
def crossBackUptoCard : Claim7 := { stood := { row := crossBackUptoRow, standIns := [], harness := (true, "99d994f36e63a2004ad79b73d94234d1779003e6fdb707ba24f8cf3b0b9cc397"), looks := true }, kinds := [], alts := [], laidByText := true, laidKinds := [.handle], laidTests := true, laidLooks := .later }
def CrossBackUptoCardSaid : Prop := Claim7.holds Tryd.pinned (.plain (OpenSpec.upto crossBackSpec)) crossBackUptoCard
end Rows
end Go.Proofs.YtkjchddidpjjmaaDoor
