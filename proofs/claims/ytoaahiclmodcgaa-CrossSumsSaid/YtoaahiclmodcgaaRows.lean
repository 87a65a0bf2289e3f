/-
  No cell of these rows narrows 'for every input' (looked for: loops, veiled, ifaces, maps, wideKeys, modest, calm, conditions, laid).
  DERIVED. THE GIVEN ROWS OF THIS SEAT. 5 by the template 'for every input the law returns true; each argument reads behind the call as it read before'; 0 by the template 'total and deterministic' (their statements: YtoaahiclmodcgaaTotals.lean).
  GIVEN WITH THE SEED: the statements are not yours to turn. If you find one false, say at which input.
  Laid BY PROGRAM, IN A SANDBOX (cutbox-rows.mjs): the forced cells as the released guide's own fill.sh prints them over the translation a198dbfc6de3f772… (all of the seat's roots in one cut). By AI agents, Wed Nov 11 2026. No macro, syntax, notation, axiom, sorry.
-/
import Derived.Test.YtoaahiclmodcgaaChecked
import GoSem.Claim
import GoSem.ClaimJoined
import GoSem.ClaimMapViews
import Derived.JoinedTies
import Derived.KernelRfl
namespace Go.Proofs.Ytoaahiclmodcgaa
/- THE CELL 'sum', in the pinned program and in every row, IS THE sha256 OF THE DUMP (.gsa) THAT YtoaahiclmodcgaaProg.lean LOADS. Nothing in Lean hashes anything: it is a label: what it is worth is what the hold of that sum in a sandbox is worth. -/
noncomputable def Try.pinned : Pinned := { name := "ytoaahiclmodcgaa", sum := "a198dbfc6de3f772d46e28c4b3e4eb80aa8bfd792d3cf08be43705ecfe683cd0", checked := Try.checked }
namespace Rows
def none {H : Type} : Left H := { results := [], args := [] }

/-- 'gangplanklaw2.PickMoves': WHATEVER THE INPUT: true; the input reads as it did. -/
def pickMovesSpec : ChangeSpec := { name := "pickMoves", fn := fun _ => fun
  | [d1, d2, d3, d4] => { results := [.lit (.bool true)], args := [d1, d2, d3, d4] }
  | _ => none }
def pickMovesRow : OpenClaim := { program := "ytoaahiclmodcgaa", sum := "a198dbfc6de3f772d46e28c4b3e4eb80aa8bfd792d3cf08be43705ecfe683cd0", func := "gangplank/gangplanklaw2.PickMoves", spec := "pickMoves", apart := false }
def PickMovesSaid : Prop := pickMovesRow.holds Try.pinned (OpenSpec.ofChange pickMovesSpec)

/-- ITS FALSE NEIGHBOUR: 'it returns false'. Refute it at one input. -/
def pickMovesWrong : ChangeSpec := { name := "pickMoves", fn := fun _ => fun
  | [d1, d2, d3, d4] => { results := [.lit (.bool false)], args := [d1, d2, d3, d4] }
  | _ => none }
def PickMovesWrongFalsely : Prop := pickMovesRow.holds Try.pinned (OpenSpec.ofChange pickMovesWrong)

/-- 'gangplanklaw1.EmbedBack': WHATEVER THE INPUT: true; the input reads as it did. -/
def embedBackSpec : ChangeSpec := { name := "embedBack", fn := fun _ => fun
  | [d1, d2, d3, d4] => { results := [.lit (.bool true)], args := [d1, d2, d3, d4] }
  | _ => none }
def embedBackRow : OpenClaim := { program := "ytoaahiclmodcgaa", sum := "a198dbfc6de3f772d46e28c4b3e4eb80aa8bfd792d3cf08be43705ecfe683cd0", func := "gangplank/gangplanklaw1.EmbedBack", spec := "embedBack", unfollowed := true, recurses := true, apart := false }
def EmbedBackSaid : Prop := embedBackRow.holds Try.pinned (OpenSpec.ofChange embedBackSpec)

/-- ITS FALSE NEIGHBOUR: 'it returns false'. Refute it at one input. -/
def embedBackWrong : ChangeSpec := { name := "embedBack", fn := fun _ => fun
  | [d1, d2, d3, d4] => { results := [.lit (.bool false)], args := [d1, d2, d3, d4] }
  | _ => none }
def EmbedBackWrongFalsely : Prop := embedBackRow.holds Try.pinned (OpenSpec.ofChange embedBackWrong)

/-- 'gangplanklaw2.ShiftSeen': WHATEVER THE INPUT: true; the input reads as it did. -/
def shiftSeenSpec : ChangeSpec := { name := "shiftSeen", fn := fun _ => fun
  | [d1, d2, d3, d4, d5, d6] => { results := [.lit (.bool true)], args := [d1, d2, d3, d4, d5, d6] }
  | _ => none }
def shiftSeenRow : OpenClaim := { program := "ytoaahiclmodcgaa", sum := "a198dbfc6de3f772d46e28c4b3e4eb80aa8bfd792d3cf08be43705ecfe683cd0", func := "gangplank/gangplanklaw2.ShiftSeen", spec := "shiftSeen", apart := false }
def ShiftSeenSaid : Prop := shiftSeenRow.holds Try.pinned (OpenSpec.ofChange shiftSeenSpec)

/-- ITS FALSE NEIGHBOUR: 'it returns false'. Refute it at one input. -/
def shiftSeenWrong : ChangeSpec := { name := "shiftSeen", fn := fun _ => fun
  | [d1, d2, d3, d4, d5, d6] => { results := [.lit (.bool false)], args := [d1, d2, d3, d4, d5, d6] }
  | _ => none }
def ShiftSeenWrongFalsely : Prop := shiftSeenRow.holds Try.pinned (OpenSpec.ofChange shiftSeenWrong)

/-- 'gangplanklaw2.ShiftTold': WHATEVER THE INPUT: true; the input reads as it did. -/
def shiftToldSpec : ChangeSpec := { name := "shiftTold", fn := fun _ => fun
  | [d1, d2, d3] => { results := [.lit (.bool true)], args := [d1, d2, d3] }
  | _ => none }
def shiftToldRow : OpenClaim := { program := "ytoaahiclmodcgaa", sum := "a198dbfc6de3f772d46e28c4b3e4eb80aa8bfd792d3cf08be43705ecfe683cd0", func := "gangplank/gangplanklaw2.ShiftTold", spec := "shiftTold", apart := false }
def ShiftToldSaid : Prop := shiftToldRow.holds Try.pinned (OpenSpec.ofChange shiftToldSpec)

/-- ITS FALSE NEIGHBOUR: 'it returns false'. Refute it at one input. -/
def shiftToldWrong : ChangeSpec := { name := "shiftTold", fn := fun _ => fun
  | [d1, d2, d3] => { results := [.lit (.bool false)], args := [d1, d2, d3] }
  | _ => none }
def ShiftToldWrongFalsely : Prop := shiftToldRow.holds Try.pinned (OpenSpec.ofChange shiftToldWrong)

/-- 'gangplanklaw1.CrossSums': WHATEVER THE INPUT: true; the input reads as it did. -/
def crossSumsSpec : ChangeSpec := { name := "crossSums", fn := fun _ => fun
  | [d1, d2, d3] => { results := [.lit (.bool true)], args := [d1, d2, d3] }
  | _ => none }
def crossSumsRow : OpenClaim := { program := "ytoaahiclmodcgaa", sum := "a198dbfc6de3f772d46e28c4b3e4eb80aa8bfd792d3cf08be43705ecfe683cd0", func := "gangplank/gangplanklaw1.CrossSums", spec := "crossSums", apart := false }
def CrossSumsSaid : Prop := crossSumsRow.holds Try.pinned (OpenSpec.ofChange crossSumsSpec)

/-- ITS FALSE NEIGHBOUR: 'it returns false'. Refute it at one input. -/
def crossSumsWrong : ChangeSpec := { name := "crossSums", fn := fun _ => fun
  | [d1, d2, d3] => { results := [.lit (.bool false)], args := [d1, d2, d3] }
  | _ => none }
def CrossSumsWrongFalsely : Prop := crossSumsRow.holds Try.pinned (OpenSpec.ofChange crossSumsWrong)

/- THE SECOND FORM. 'bulk': how many values and letters a reading holds, each counted each time it is reached (what is shared counts as often as it is met; a slice's spare places count too). A statement '..UptoSaid' is the law's where the arguments, and the package variables that the reading takes, are together of bulk at most 1048576: NARROWER than '..Said'. Prove '..Said' where nothing that the law and all that it calls make is longer than what came in: it says more and counts as full. Else prove '..UptoSaid'. A law counts once. -/
mutual
def uptoBulk {H : Type} : DataW H → Nat
  | .lit (.string bytes) => bytes.length + 1
  | .lit _ => 1
  | .nil => 1
  | .ptr d => uptoBulk d + 1
  | .slice elems spare => uptoBulkAll elems + uptoBulkAll spare + 1
  | .agg parts => uptoBulkAll parts + 1
  | .iface _ d => uptoBulk d + 1
  | .map entries => uptoBulkEntries entries + 1
  | .held _ => 1
def uptoBulkAll {H : Type} : List (DataW H) → Nat
  | [] => 0
  | d :: r => uptoBulk d + uptoBulkAll r
def uptoBulkEntries {H : Type} : List (Lit × DataW H) → Nat
  | [] => 0
  | x :: r => uptoBulkEntry x + uptoBulkEntries r
def uptoBulkEntry {H : Type} : Lit × DataW H → Nat
  | (.string bytes, d) => bytes.length + uptoBulk d + 1
  | (_, d) => uptoBulk d + 1
 end
def uptoSmall : (H : Type) → List (DataW H) → Bool := fun _ ds => decide (uptoBulkAll ds ≤ 1048576)
def OpenSpec.upto (s : _root_.Go.ChangeSpec) : _root_.Go.OpenSpec := { _root_.Go.OpenSpec.ofChange s with cond := some uptoSmall }

/-- 'gangplanklaw2.PickMoves', WHERE WHAT IT READS IS OF BULK AT MOST 1048576: true; the input reads as it did. -/
def pickMovesUptoRow : OpenClaim := { program := "ytoaahiclmodcgaa", sum := "a198dbfc6de3f772d46e28c4b3e4eb80aa8bfd792d3cf08be43705ecfe683cd0", func := "gangplank/gangplanklaw2.PickMoves", spec := "pickMoves", apart := false, narrowed := true }
def PickMovesUptoSaid : Prop := pickMovesUptoRow.holds Try.pinned (OpenSpec.upto pickMovesSpec)

/-- 'gangplanklaw1.EmbedBack', WHERE WHAT IT READS IS OF BULK AT MOST 1048576: true; the input reads as it did. -/
def embedBackUptoRow : OpenClaim := { program := "ytoaahiclmodcgaa", sum := "a198dbfc6de3f772d46e28c4b3e4eb80aa8bfd792d3cf08be43705ecfe683cd0", func := "gangplank/gangplanklaw1.EmbedBack", spec := "embedBack", unfollowed := true, recurses := true, apart := false, narrowed := true }
def EmbedBackUptoSaid : Prop := embedBackUptoRow.holds Try.pinned (OpenSpec.upto embedBackSpec)

/-- 'gangplanklaw2.ShiftSeen', WHERE WHAT IT READS IS OF BULK AT MOST 1048576: true; the input reads as it did. -/
def shiftSeenUptoRow : OpenClaim := { program := "ytoaahiclmodcgaa", sum := "a198dbfc6de3f772d46e28c4b3e4eb80aa8bfd792d3cf08be43705ecfe683cd0", func := "gangplank/gangplanklaw2.ShiftSeen", spec := "shiftSeen", apart := false, narrowed := true }
def ShiftSeenUptoSaid : Prop := shiftSeenUptoRow.holds Try.pinned (OpenSpec.upto shiftSeenSpec)

/-- 'gangplanklaw2.ShiftTold', WHERE WHAT IT READS IS OF BULK AT MOST 1048576: true; the input reads as it did. -/
def shiftToldUptoRow : OpenClaim := { program := "ytoaahiclmodcgaa", sum := "a198dbfc6de3f772d46e28c4b3e4eb80aa8bfd792d3cf08be43705ecfe683cd0", func := "gangplank/gangplanklaw2.ShiftTold", spec := "shiftTold", apart := false, narrowed := true }
def ShiftToldUptoSaid : Prop := shiftToldUptoRow.holds Try.pinned (OpenSpec.upto shiftToldSpec)

/-- 'gangplanklaw1.CrossSums', WHERE WHAT IT READS IS OF BULK AT MOST 1048576: true; the input reads as it did. -/
def crossSumsUptoRow : OpenClaim := { program := "ytoaahiclmodcgaa", sum := "a198dbfc6de3f772d46e28c4b3e4eb80aa8bfd792d3cf08be43705ecfe683cd0", func := "gangplank/gangplanklaw1.CrossSums", spec := "crossSums", apart := false, narrowed := true }
def CrossSumsUptoSaid : Prop := crossSumsUptoRow.holds Try.pinned (OpenSpec.upto crossSumsSpec)

end Rows
end Go.Proofs.Ytoaahiclmodcgaa
