/-
  DERIVED. GIVEN WITH THE SEED: THE CARDS: each row of YtapmbjmcbllalaaDoorRows.lean that lists a variable, with what it lists TIED to the program's text (the seventh form; the later family's looks); each row that meets fmt, with fmt's text TOLD by the authors' own Lean function (tested against real Go, not proved from fmt's source: count such statements apart). THE CARD IS WHAT COUNTS. Prove the row's statement (the work); the ties are given (YtapmbjmcbllalaaDoorTie.lean); close each card by the builder's one call (the guide's Derived/Test/ToyasCard.lean, 'card_holds'). Laid BY PROGRAM, IN A SANDBOX (cutbox-door.mjs). By AI agents, Wed Nov 11 2026. No macro, syntax, notation, axiom, sorry.
-/
import Derived.Test.YtapmbjmcbllalaaDoorRows
import GoSem.ClaimSeven
namespace Go.Proofs.YtapmbjmcbllalaaDoor
namespace Rows

/-- THE TIED CARD OF 'gangplanklaw2.PortApart'. -/
def portApartCard : Claim7 := { stood := { row := portApartRow, standIns := [], harness := (true, "f347d7f4cacff8aff4962d5bb8751bd86fc9ba9a7f576a54cd2910a5a2167e2e"), looks := true }, kinds := [], alts := [], laidByText := true, laidKinds := [.handle], laidTests := true, laidLooks := .later }
def PortApartCardSaid : Prop := Claim7.holds Tryd.pinned (.plain (OpenSpec.ofChange portApartSpec)) portApartCard

/-- THE TIED CARD OF 'gangplanklaw2.PickIs'. -/
def pickIsCard : Claim7 := { stood := { row := pickIsRow, standIns := [], harness := (true, "f347d7f4cacff8aff4962d5bb8751bd86fc9ba9a7f576a54cd2910a5a2167e2e"), looks := true }, kinds := [], alts := [], laidByText := true, laidKinds := [.handle], laidTests := true, laidLooks := .later }
def PickIsCardSaid : Prop := Claim7.holds Tryd.pinned (.plain (OpenSpec.ofChange pickIsSpec)) pickIsCard

/-- THE TIED CARD OF 'gangplanklaw2.PortPlays'. -/
def portPlaysCard : Claim7 := { stood := { row := portPlaysRow, standIns := [], harness := (true, "f347d7f4cacff8aff4962d5bb8751bd86fc9ba9a7f576a54cd2910a5a2167e2e"), looks := true }, kinds := [], alts := [], laidByText := true, laidKinds := [.handle], laidTests := true, laidLooks := .later }
def PortPlaysCardSaid : Prop := Claim7.holds Tryd.pinned (.plain (OpenSpec.ofChange portPlaysSpec)) portPlaysCard

/-- THE SECOND FORM's CARD OF 'gangplanklaw2.PortApart'. -/
def portApartUptoCard : Claim7 := { stood := { row := portApartUptoRow, standIns := [], harness := (true, "f347d7f4cacff8aff4962d5bb8751bd86fc9ba9a7f576a54cd2910a5a2167e2e"), looks := true }, kinds := [], alts := [], laidByText := true, laidKinds := [.handle], laidTests := true, laidLooks := .later }
def PortApartUptoCardSaid : Prop := Claim7.holds Tryd.pinned (.plain (OpenSpec.upto portApartSpec)) portApartUptoCard

/-- THE SECOND FORM's CARD OF 'gangplanklaw2.PickIs'. -/
def pickIsUptoCard : Claim7 := { stood := { row := pickIsUptoRow, standIns := [], harness := (true, "f347d7f4cacff8aff4962d5bb8751bd86fc9ba9a7f576a54cd2910a5a2167e2e"), looks := true }, kinds := [], alts := [], laidByText := true, laidKinds := [.handle], laidTests := true, laidLooks := .later }
def PickIsUptoCardSaid : Prop := Claim7.holds Tryd.pinned (.plain (OpenSpec.upto pickIsSpec)) pickIsUptoCard

/-- THE SECOND FORM's CARD OF 'gangplanklaw2.PortPlays'. -/
def portPlaysUptoCard : Claim7 := { stood := { row := portPlaysUptoRow, standIns := [], harness := (true, "f347d7f4cacff8aff4962d5bb8751bd86fc9ba9a7f576a54cd2910a5a2167e2e"), looks := true }, kinds := [], alts := [], laidByText := true, laidKinds := [.handle], laidTests := true, laidLooks := .later }
def PortPlaysUptoCardSaid : Prop := Claim7.holds Tryd.pinned (.plain (OpenSpec.upto portPlaysSpec)) portPlaysUptoCard
end Rows
end Go.Proofs.YtapmbjmcbllalaaDoor
