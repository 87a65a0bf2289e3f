/-
  DERIVED. GIVEN WITH THE SEED: THE CARDS: each row of YtonjifkjammopaaGreatDoorRows.lean that lists a variable, with what it lists TIED to the program's text (the seventh form; the later family's looks); each row that meets fmt, with fmt's text TOLD by the authors' own Lean function (tested against real Go, not proved from fmt's source: count such statements apart). THE CARD IS WHAT COUNTS. Prove the row's statement (the work); the ties are given (YtonjifkjammopaaGreatDoorTie.lean); close each card by the builder's one call (the guide's Derived/Test/ToyasCard.lean, 'card_holds'). Laid BY PROGRAM, IN A SANDBOX (cutbox-door.mjs). By AI agents, Wed Nov 11 2026. No macro, syntax, notation, axiom, sorry.
-/
import Derived.Test.YtonjifkjammopaaGreatDoorRows
import GoSem.ClaimSeven
namespace Go.Proofs.YtonjifkjammopaaGreatDoor
namespace Rows

/-- THE TIED CARD OF 'gangplanklaw1.AddrReads'. -/
def addrReadsCard : Claim7 := { stood := { row := addrReadsRow, standIns := [], harness := (true, "f7ff9d3a3b2bf7f32074ebd0c9357c6e762e48df36b4b6742c3aa579fecf2499"), looks := true }, kinds := [], alts := [], laidByText := true, laidKinds := [.data, .data, .data, .data, .handle, .sentinel, .sentinel, .pinned], laidTests := true, laidLooks := .later }
def AddrReadsCardSaid : Prop := Claim7.holds Tryz.pinned (.plain (OpenSpec.ofChange addrReadsSpec)) addrReadsCard

/-- THE SECOND FORM's CARD OF 'gangplanklaw1.AddrReads'. -/
def addrReadsUptoCard : Claim7 := { stood := { row := addrReadsUptoRow, standIns := [], harness := (true, "f7ff9d3a3b2bf7f32074ebd0c9357c6e762e48df36b4b6742c3aa579fecf2499"), looks := true }, kinds := [], alts := [], laidByText := true, laidKinds := [.data, .data, .data, .data, .handle, .sentinel, .sentinel, .pinned], laidTests := true, laidLooks := .later }
def AddrReadsUptoCardSaid : Prop := Claim7.holds Tryz.pinned (.plain (OpenSpec.upto addrReadsSpec)) addrReadsUptoCard
end Rows
end Go.Proofs.YtonjifkjammopaaGreatDoor
