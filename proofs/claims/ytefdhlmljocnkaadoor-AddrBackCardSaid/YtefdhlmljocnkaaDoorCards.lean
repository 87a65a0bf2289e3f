/-
  DERIVED. GIVEN WITH THE SEED: THE CARDS: each row of YtefdhlmljocnkaaDoorRows.lean that lists a variable, with what it lists TIED to the program's text (the seventh form; the later family's looks); each row that meets fmt, with fmt's text TOLD by the authors' own Lean function (tested against real Go, not proved from fmt's source: count such statements apart). THE CARD IS WHAT COUNTS. Prove the row's statement (the work); the ties are given (YtefdhlmljocnkaaDoorTie.lean); close each card by the builder's one call (the guide's Derived/Test/ToyasCard.lean, 'card_holds'). Laid BY PROGRAM, IN A SANDBOX (cutbox-door.mjs). By AI agents, Wed Nov 11 2026. No macro, syntax, notation, axiom, sorry.
-/
import Derived.Test.YtefdhlmljocnkaaDoorRows
import GoSem.ClaimSeven
namespace Go.Proofs.YtefdhlmljocnkaaDoor
namespace Rows

/-- THE TIED CARD OF 'gangplanklaw3.GateConfigs'. -/
def gateConfigsCard : Claim7 := { stood := { row := gateConfigsRow, standIns := [], harness := (true, "b858a9bac691c09cd2a015cb8c446cc02bf0f54ccb71edd7d9abe58c370c01c0"), looks := true }, kinds := [], alts := [], laidByText := true, laidKinds := [.handle], laidTests := true, laidLooks := .later }
def GateConfigsCardSaid : Prop := Claim7.holds Tryd.pinned (.plain (OpenSpec.ofChange gateConfigsSpec)) gateConfigsCard

/-- THE TIED CARD OF 'gangplanklaw2.BindPlays'. -/
def bindPlaysCard : Claim7 := { stood := { row := bindPlaysRow, standIns := [], harness := (true, "b858a9bac691c09cd2a015cb8c446cc02bf0f54ccb71edd7d9abe58c370c01c0"), looks := true }, kinds := [], alts := [], laidByText := true, laidKinds := [.handle], laidTests := true, laidLooks := .later }
def BindPlaysCardSaid : Prop := Claim7.holds Tryd.pinned (.plain (OpenSpec.ofChange bindPlaysSpec)) bindPlaysCard

/-- THE TIED CARD OF 'gangplanklaw2.BindApart'. -/
def bindApartCard : Claim7 := { stood := { row := bindApartRow, standIns := [], harness := (true, "b858a9bac691c09cd2a015cb8c446cc02bf0f54ccb71edd7d9abe58c370c01c0"), looks := true }, kinds := [], alts := [], laidByText := true, laidKinds := [.handle], laidTests := true, laidLooks := .later }
def BindApartCardSaid : Prop := Claim7.holds Tryd.pinned (.plain (OpenSpec.ofChange bindApartSpec)) bindApartCard

/-- THE TIED CARD OF 'gangplanklaw1.AddrBack'. -/
def addrBackCard : Claim7 := { stood := { row := addrBackRow, standIns := [], harness := (true, "b858a9bac691c09cd2a015cb8c446cc02bf0f54ccb71edd7d9abe58c370c01c0"), looks := true }, kinds := [], alts := [], laidByText := true, laidKinds := [.data, .data, .data, .data, .sentinel, .sentinel, .pinned], laidTests := true, laidLooks := .later }
def AddrBackCardSaid : Prop := Claim7.holds Tryd.pinned (.plain (OpenSpec.ofChange addrBackSpec)) addrBackCard

/-- THE SECOND FORM's CARD OF 'gangplanklaw3.GateConfigs'. -/
def gateConfigsUptoCard : Claim7 := { stood := { row := gateConfigsUptoRow, standIns := [], harness := (true, "b858a9bac691c09cd2a015cb8c446cc02bf0f54ccb71edd7d9abe58c370c01c0"), looks := true }, kinds := [], alts := [], laidByText := true, laidKinds := [.handle], laidTests := true, laidLooks := .later }
def GateConfigsUptoCardSaid : Prop := Claim7.holds Tryd.pinned (.plain (OpenSpec.upto gateConfigsSpec)) gateConfigsUptoCard

/-- THE SECOND FORM's CARD OF 'gangplanklaw2.BindPlays'. -/
def bindPlaysUptoCard : Claim7 := { stood := { row := bindPlaysUptoRow, standIns := [], harness := (true, "b858a9bac691c09cd2a015cb8c446cc02bf0f54ccb71edd7d9abe58c370c01c0"), looks := true }, kinds := [], alts := [], laidByText := true, laidKinds := [.handle], laidTests := true, laidLooks := .later }
def BindPlaysUptoCardSaid : Prop := Claim7.holds Tryd.pinned (.plain (OpenSpec.upto bindPlaysSpec)) bindPlaysUptoCard

/-- THE SECOND FORM's CARD OF 'gangplanklaw2.BindApart'. -/
def bindApartUptoCard : Claim7 := { stood := { row := bindApartUptoRow, standIns := [], harness := (true, "b858a9bac691c09cd2a015cb8c446cc02bf0f54ccb71edd7d9abe58c370c01c0"), looks := true }, kinds := [], alts := [], laidByText := true, laidKinds := [.handle], laidTests := true, laidLooks := .later }
def BindApartUptoCardSaid : Prop := Claim7.holds Tryd.pinned (.plain (OpenSpec.upto bindApartSpec)) bindApartUptoCard

/-- THE SECOND FORM's CARD OF 'gangplanklaw1.AddrBack'. -/
def addrBackUptoCard : Claim7 := { stood := { row := addrBackUptoRow, standIns := [], harness := (true, "b858a9bac691c09cd2a015cb8c446cc02bf0f54ccb71edd7d9abe58c370c01c0"), looks := true }, kinds := [], alts := [], laidByText := true, laidKinds := [.data, .data, .data, .data, .sentinel, .sentinel, .pinned], laidTests := true, laidLooks := .later }
def AddrBackUptoCardSaid : Prop := Claim7.holds Tryd.pinned (.plain (OpenSpec.upto addrBackSpec)) addrBackUptoCard
end Rows
end Go.Proofs.YtefdhlmljocnkaaDoor
