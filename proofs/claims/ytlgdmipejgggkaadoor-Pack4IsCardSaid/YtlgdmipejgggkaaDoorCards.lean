/-
  DERIVED. GIVEN WITH THE SEED: THE CARDS: each row of YtlgdmipejgggkaaDoorRows.lean that lists a variable, with what it lists TIED to the program's text (the seventh form; the later family's looks); each row that meets fmt, with fmt's text TOLD by the authors' own Lean function (tested against real Go, not proved from fmt's source: count such statements apart). THE CARD IS WHAT COUNTS. Prove the row's statement (the work); the ties are given (YtlgdmipejgggkaaDoorTie.lean); close each card by the builder's one call (the guide's Derived/Test/ToyasCard.lean, 'card_holds'). Laid BY PROGRAM, IN A SANDBOX (cutbox-door.mjs). By AI agents, Wed Nov 11 2026. No macro, syntax, notation, axiom, sorry.
-/
import Derived.Test.YtlgdmipejgggkaaDoorRows
import GoSem.ClaimSeven
namespace Go.Proofs.YtlgdmipejgggkaaDoor
namespace Rows

/-- THE TIED CARD OF 'gangplanklaw1.SumIs'. -/
def sumIsCard : Claim7 := { stood := { row := sumIsRow, standIns := [], harness := (true, "a2b4a1dad0d1aee09731ca708d060859e8482c252771d41086ac5c61d3088e95"), looks := true }, kinds := [], alts := [], laidByText := true, laidKinds := [.handle], laidTests := true, laidLooks := .later }
def SumIsCardSaid : Prop := Claim7.holds Tryd.pinned (.plain (OpenSpec.ofChange sumIsSpec)) sumIsCard

/-- THE TIED CARD OF 'gangplanklaw1.Pack6Is'. -/
def pack6IsCard : Claim7 := { stood := { row := pack6IsRow, standIns := [], harness := (true, "a2b4a1dad0d1aee09731ca708d060859e8482c252771d41086ac5c61d3088e95"), looks := true }, kinds := [], alts := [], laidByText := true, laidKinds := [.handle], laidTests := true, laidLooks := .later }
def Pack6IsCardSaid : Prop := Claim7.holds Tryd.pinned (.plain (OpenSpec.ofChange pack6IsSpec)) pack6IsCard

/-- THE TIED CARD OF 'gangplanklaw1.Pack6Back'. -/
def pack6BackCard : Claim7 := { stood := { row := pack6BackRow, standIns := [], harness := (true, "a2b4a1dad0d1aee09731ca708d060859e8482c252771d41086ac5c61d3088e95"), looks := true }, kinds := [], alts := [], laidByText := true, laidKinds := [.handle], laidTests := true, laidLooks := .later }
def Pack6BackCardSaid : Prop := Claim7.holds Tryd.pinned (.plain (OpenSpec.ofChange pack6BackSpec)) pack6BackCard

/-- THE TIED CARD OF 'gangplanklaw1.Pack4Is'. -/
def pack4IsCard : Claim7 := { stood := { row := pack4IsRow, standIns := [], harness := (true, "a2b4a1dad0d1aee09731ca708d060859e8482c252771d41086ac5c61d3088e95"), looks := true }, kinds := [], alts := [], laidByText := true, laidKinds := [.handle], laidTests := true, laidLooks := .later }
def Pack4IsCardSaid : Prop := Claim7.holds Tryd.pinned (.plain (OpenSpec.ofChange pack4IsSpec)) pack4IsCard

/-- THE TIED CARD OF 'gangplanklaw1.SegOver'. -/
def segOverCard : Claim7 := { stood := { row := segOverRow, standIns := [], harness := (true, "a2b4a1dad0d1aee09731ca708d060859e8482c252771d41086ac5c61d3088e95"), looks := true }, kinds := [], alts := [], laidByText := true, laidKinds := [.handle], laidTests := true, laidLooks := .later }
def SegOverCardSaid : Prop := Claim7.holds Tryd.pinned (.plain (OpenSpec.ofChange segOverSpec)) segOverCard

/-- THE SECOND FORM's CARD OF 'gangplanklaw1.SumIs'. -/
def sumIsUptoCard : Claim7 := { stood := { row := sumIsUptoRow, standIns := [], harness := (true, "a2b4a1dad0d1aee09731ca708d060859e8482c252771d41086ac5c61d3088e95"), looks := true }, kinds := [], alts := [], laidByText := true, laidKinds := [.handle], laidTests := true, laidLooks := .later }
def SumIsUptoCardSaid : Prop := Claim7.holds Tryd.pinned (.plain (OpenSpec.upto sumIsSpec)) sumIsUptoCard

/-- THE SECOND FORM's CARD OF 'gangplanklaw1.Pack6Is'. -/
def pack6IsUptoCard : Claim7 := { stood := { row := pack6IsUptoRow, standIns := [], harness := (true, "a2b4a1dad0d1aee09731ca708d060859e8482c252771d41086ac5c61d3088e95"), looks := true }, kinds := [], alts := [], laidByText := true, laidKinds := [.handle], laidTests := true, laidLooks := .later }
def Pack6IsUptoCardSaid : Prop := Claim7.holds Tryd.pinned (.plain (OpenSpec.upto pack6IsSpec)) pack6IsUptoCard

/-- THE SECOND FORM's CARD OF 'gangplanklaw1.Pack6Back'. -/
def pack6BackUptoCard : Claim7 := { stood := { row := pack6BackUptoRow, standIns := [], harness := (true, "a2b4a1dad0d1aee09731ca708d060859e8482c252771d41086ac5c61d3088e95"), looks := true }, kinds := [], alts := [], laidByText := true, laidKinds := [.handle], laidTests := true, laidLooks := .later }
def Pack6BackUptoCardSaid : Prop := Claim7.holds Tryd.pinned (.plain (OpenSpec.upto pack6BackSpec)) pack6BackUptoCard

/-- THE SECOND FORM's CARD OF 'gangplanklaw1.Pack4Is'. -/
def pack4IsUptoCard : Claim7 := { stood := { row := pack4IsUptoRow, standIns := [], harness := (true, "a2b4a1dad0d1aee09731ca708d060859e8482c252771d41086ac5c61d3088e95"), looks := true }, kinds := [], alts := [], laidByText := true, laidKinds := [.handle], laidTests := true, laidLooks := .later }
def Pack4IsUptoCardSaid : Prop := Claim7.holds Tryd.pinned (.plain (OpenSpec.upto pack4IsSpec)) pack4IsUptoCard

/-- THE SECOND FORM's CARD OF 'gangplanklaw1.SegOver'. -/
def segOverUptoCard : Claim7 := { stood := { row := segOverUptoRow, standIns := [], harness := (true, "a2b4a1dad0d1aee09731ca708d060859e8482c252771d41086ac5c61d3088e95"), looks := true }, kinds := [], alts := [], laidByText := true, laidKinds := [.handle], laidTests := true, laidLooks := .later }
def SegOverUptoCardSaid : Prop := Claim7.holds Tryd.pinned (.plain (OpenSpec.upto segOverSpec)) segOverUptoCard
end Rows
end Go.Proofs.YtlgdmipejgggkaaDoor
