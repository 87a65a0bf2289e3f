/-
  NARROWER THAN 'FOR EVERY INPUT', by the rows' own cells (each row's printed sentence says how): EmbedIs: laid · ShiftPlays: laid · SegIs: laid · SegBack: laid · CrossIs: laid · CrossBack: laid.
  DERIVED. THE GIVEN ROWS OF THIS SEAT. 6 by the template 'for every input the law returns true; each argument reads behind the call as it read before'; 0 by the template 'total and deterministic' (their statements: YtkjchddidpjjmaaDoorTotals.lean).
  GIVEN WITH THE SEED: the statements are not yours to turn. If you find one false, say at which input.
  Laid BY PROGRAM, IN A SANDBOX (cutbox-rows.mjs): the forced cells as the released guide's own fill.sh prints them over the translation c34ae8d8b99a2cef… (all of the seat's roots in one cut). By AI agents, Wed Nov 11 2026. No macro, syntax, notation, axiom, sorry.
-/
import Derived.Test.YtkjchddidpjjmaaDoorChecked
import GoSem.Claim
import GoSem.ClaimJoined
import GoSem.ClaimMapViews
import Derived.JoinedTies
import Derived.KernelRfl
namespace Go.Proofs.YtkjchddidpjjmaaDoor
/- THE CELL 'sum', in the pinned program and in every row, IS THE sha256 OF THE DUMP (.gsa) THAT YtkjchddidpjjmaaDoorProg.lean LOADS. Nothing in Lean hashes anything: it is a label: what it is worth is what the hold of that sum in a sandbox is worth. -/
noncomputable def Tryd.pinned : Pinned := { name := "ytkjchddidpjjmaadoor", sum := "c34ae8d8b99a2cefd5b2c79cee5d145ad7ff6e33fb4e6da2f7a820e06368e97b", checked := Tryd.checked }
namespace Rows
def none {H : Type} : Left H := { results := [], args := [] }

/- WHAT THE LISTED PACKAGE-LEVEL VARIABLES READ AS WHEN THE CALL BEGINS. Each datum BY PROGRAM (the guide's laid-datum.mjs) off the statement by which the dump's own 'gosem.cut.vars' lays the variable. In a bare row this is a premise. The card (YtkjchddidpjjmaaDoorCards.lean) ties it to the program's text. -/
def laid_errors_errorType {H : Type} : DataW H := .iface "internal/reflectlite.rtype" (.agg [.ptr (.lit (.string [101, 114, 114, 111, 114]))])

/-- 'gangplanklaw1.EmbedIs': WHATEVER THE INPUT: true; the input reads as it did. -/
def embedIsSpec : ChangeSpec := { name := "embedIs", fn := fun _ => fun
  | [d1, d2, d3, d4] => { results := [.lit (.bool true)], args := [d1, d2, d3, d4] }
  | _ => none }
def embedIsRow : OpenClaim := { program := "ytkjchddidpjjmaadoor", sum := "c34ae8d8b99a2cefd5b2c79cee5d145ad7ff6e33fb4e6da2f7a820e06368e97b", func := "gangplank/gangplanklaw1.EmbedIs", spec := "embedIs", inPlace := ["internal/reflectlite.ValueOf", "(internal/reflectlite.Value).Type", "(internal/reflectlite.Value).IsNil", "internal/reflectlite.TypeOf", "(internal/reflectlite.Value).Elem", "(internal/reflectlite.Value).Set"], unfollowed := true, recurses := true, named := ["errors.errorType"], apart := false, laid := [("errors.errorType", laid_errors_errorType)] }
def EmbedIsSaid : Prop := embedIsRow.holds Tryd.pinned (OpenSpec.ofChange embedIsSpec)

/-- ITS FALSE NEIGHBOUR: 'it returns false'. Refute it at one input. -/
def embedIsWrong : ChangeSpec := { name := "embedIs", fn := fun _ => fun
  | [d1, d2, d3, d4] => { results := [.lit (.bool false)], args := [d1, d2, d3, d4] }
  | _ => none }
def EmbedIsWrongFalsely : Prop := embedIsRow.holds Tryd.pinned (OpenSpec.ofChange embedIsWrong)

/-- 'gangplanklaw2.ShiftPlays': WHATEVER THE INPUT: true; the input reads as it did. -/
def shiftPlaysSpec : ChangeSpec := { name := "shiftPlays", fn := fun _ => fun
  | [d1, d2, d3] => { results := [.lit (.bool true)], args := [d1, d2, d3] }
  | _ => none }
def shiftPlaysRow : OpenClaim := { program := "ytkjchddidpjjmaadoor", sum := "c34ae8d8b99a2cefd5b2c79cee5d145ad7ff6e33fb4e6da2f7a820e06368e97b", func := "gangplank/gangplanklaw2.ShiftPlays", spec := "shiftPlays", inPlace := ["internal/reflectlite.ValueOf", "(internal/reflectlite.Value).Type", "(internal/reflectlite.Value).IsNil", "internal/reflectlite.TypeOf", "(internal/reflectlite.Value).Elem", "(internal/reflectlite.Value).Set"], unfollowed := true, recurses := true, named := ["errors.errorType"], apart := false, laid := [("errors.errorType", laid_errors_errorType)] }
def ShiftPlaysSaid : Prop := shiftPlaysRow.holds Tryd.pinned (OpenSpec.ofChange shiftPlaysSpec)

/-- ITS FALSE NEIGHBOUR: 'it returns false'. Refute it at one input. -/
def shiftPlaysWrong : ChangeSpec := { name := "shiftPlays", fn := fun _ => fun
  | [d1, d2, d3] => { results := [.lit (.bool false)], args := [d1, d2, d3] }
  | _ => none }
def ShiftPlaysWrongFalsely : Prop := shiftPlaysRow.holds Tryd.pinned (OpenSpec.ofChange shiftPlaysWrong)

/-- 'gangplanklaw1.SegIs': WHATEVER THE INPUT: true; the input reads as it did. -/
def segIsSpec : ChangeSpec := { name := "segIs", fn := fun _ => fun
  | [d1, d2, d3, d4] => { results := [.lit (.bool true)], args := [d1, d2, d3, d4] }
  | _ => none }
def segIsRow : OpenClaim := { program := "ytkjchddidpjjmaadoor", sum := "c34ae8d8b99a2cefd5b2c79cee5d145ad7ff6e33fb4e6da2f7a820e06368e97b", func := "gangplank/gangplanklaw1.SegIs", spec := "segIs", inPlace := ["internal/reflectlite.ValueOf", "(internal/reflectlite.Value).Type", "(internal/reflectlite.Value).IsNil", "internal/reflectlite.TypeOf", "(internal/reflectlite.Value).Elem", "(internal/reflectlite.Value).Set"], unfollowed := true, recurses := true, named := ["errors.errorType"], apart := false, laid := [("errors.errorType", laid_errors_errorType)] }
def SegIsSaid : Prop := segIsRow.holds Tryd.pinned (OpenSpec.ofChange segIsSpec)

/-- ITS FALSE NEIGHBOUR: 'it returns false'. Refute it at one input. -/
def segIsWrong : ChangeSpec := { name := "segIs", fn := fun _ => fun
  | [d1, d2, d3, d4] => { results := [.lit (.bool false)], args := [d1, d2, d3, d4] }
  | _ => none }
def SegIsWrongFalsely : Prop := segIsRow.holds Tryd.pinned (OpenSpec.ofChange segIsWrong)

/-- 'gangplanklaw1.SegBack': WHATEVER THE INPUT: true; the input reads as it did. -/
def segBackSpec : ChangeSpec := { name := "segBack", fn := fun _ => fun
  | [d1, d2, d3, d4] => { results := [.lit (.bool true)], args := [d1, d2, d3, d4] }
  | _ => none }
def segBackRow : OpenClaim := { program := "ytkjchddidpjjmaadoor", sum := "c34ae8d8b99a2cefd5b2c79cee5d145ad7ff6e33fb4e6da2f7a820e06368e97b", func := "gangplank/gangplanklaw1.SegBack", spec := "segBack", inPlace := ["internal/reflectlite.ValueOf", "(internal/reflectlite.Value).Type", "(internal/reflectlite.Value).IsNil", "internal/reflectlite.TypeOf", "(internal/reflectlite.Value).Elem", "(internal/reflectlite.Value).Set"], unfollowed := true, recurses := true, named := ["errors.errorType"], apart := false, laid := [("errors.errorType", laid_errors_errorType)] }
def SegBackSaid : Prop := segBackRow.holds Tryd.pinned (OpenSpec.ofChange segBackSpec)

/-- ITS FALSE NEIGHBOUR: 'it returns false'. Refute it at one input. -/
def segBackWrong : ChangeSpec := { name := "segBack", fn := fun _ => fun
  | [d1, d2, d3, d4] => { results := [.lit (.bool false)], args := [d1, d2, d3, d4] }
  | _ => none }
def SegBackWrongFalsely : Prop := segBackRow.holds Tryd.pinned (OpenSpec.ofChange segBackWrong)

/-- 'gangplanklaw1.CrossIs': WHATEVER THE INPUT: true; the input reads as it did. -/
def crossIsSpec : ChangeSpec := { name := "crossIs", fn := fun _ => fun
  | [d1, d2, d3, d4, d5, d6] => { results := [.lit (.bool true)], args := [d1, d2, d3, d4, d5, d6] }
  | _ => none }
def crossIsRow : OpenClaim := { program := "ytkjchddidpjjmaadoor", sum := "c34ae8d8b99a2cefd5b2c79cee5d145ad7ff6e33fb4e6da2f7a820e06368e97b", func := "gangplank/gangplanklaw1.CrossIs", spec := "crossIs", inPlace := ["internal/reflectlite.ValueOf", "(internal/reflectlite.Value).Type", "(internal/reflectlite.Value).IsNil", "internal/reflectlite.TypeOf", "(internal/reflectlite.Value).Elem", "(internal/reflectlite.Value).Set"], unfollowed := true, recurses := true, named := ["errors.errorType"], apart := false, laid := [("errors.errorType", laid_errors_errorType)] }
def CrossIsSaid : Prop := crossIsRow.holds Tryd.pinned (OpenSpec.ofChange crossIsSpec)

/-- ITS FALSE NEIGHBOUR: 'it returns false'. Refute it at one input. -/
def crossIsWrong : ChangeSpec := { name := "crossIs", fn := fun _ => fun
  | [d1, d2, d3, d4, d5, d6] => { results := [.lit (.bool false)], args := [d1, d2, d3, d4, d5, d6] }
  | _ => none }
def CrossIsWrongFalsely : Prop := crossIsRow.holds Tryd.pinned (OpenSpec.ofChange crossIsWrong)

/-- 'gangplanklaw1.CrossBack': WHATEVER THE INPUT: true; the input reads as it did. -/
def crossBackSpec : ChangeSpec := { name := "crossBack", fn := fun _ => fun
  | [d1, d2, d3] => { results := [.lit (.bool true)], args := [d1, d2, d3] }
  | _ => none }
def crossBackRow : OpenClaim := { program := "ytkjchddidpjjmaadoor", sum := "c34ae8d8b99a2cefd5b2c79cee5d145ad7ff6e33fb4e6da2f7a820e06368e97b", func := "gangplank/gangplanklaw1.CrossBack", spec := "crossBack", inPlace := ["internal/reflectlite.ValueOf", "(internal/reflectlite.Value).Type", "(internal/reflectlite.Value).IsNil", "internal/reflectlite.TypeOf", "(internal/reflectlite.Value).Elem", "(internal/reflectlite.Value).Set"], unfollowed := true, recurses := true, named := ["errors.errorType"], apart := false, laid := [("errors.errorType", laid_errors_errorType)] }
def CrossBackSaid : Prop := crossBackRow.holds Tryd.pinned (OpenSpec.ofChange crossBackSpec)

/-- ITS FALSE NEIGHBOUR: 'it returns false'. Refute it at one input. -/
def crossBackWrong : ChangeSpec := { name := "crossBack", fn := fun _ => fun
  | [d1, d2, d3] => { results := [.lit (.bool false)], args := [d1, d2, d3] }
  | _ => none }
def CrossBackWrongFalsely : Prop := crossBackRow.holds Tryd.pinned (OpenSpec.ofChange crossBackWrong)

/- THE SECOND FORM. 'bulk': how many values and letters a reading holds, each counted each time it is reached (what is shared counts as often as it is met; a slice's spare places count too). A statement '..UptoSaid' is the law's where the arguments, and the package variables that the reading takes, are together of bulk at most 1048576: NARROWER than '..Said'. Prove '..Said' where nothing that the law and all that it calls make is longer than what came in: it says more and counts as full. Else prove '..UptoSaid'. A law counts once. -/
mutual
def uptoBulk {H : Type} : DataW H → Nat
  | .lit (.string bytes) => bytes.length + 1
  | .lit _ => 1
  | .nil => 1
  | .ptr d => uptoBulk d + 1
  | .slice elems spare => uptoBulkAll elems + uptoBulkAll spare + 1
  | .agg parts => uptoBulkAll parts + 1
  | .iface _ d => uptoBulk d + 1
  | .map entries => uptoBulkEntries entries + 1
  | .held _ => 1
def uptoBulkAll {H : Type} : List (DataW H) → Nat
  | [] => 0
  | d :: r => uptoBulk d + uptoBulkAll r
def uptoBulkEntries {H : Type} : List (Lit × DataW H) → Nat
  | [] => 0
  | x :: r => uptoBulkEntry x + uptoBulkEntries r
def uptoBulkEntry {H : Type} : Lit × DataW H → Nat
  | (.string bytes, d) => bytes.length + uptoBulk d + 1
  | (_, d) => uptoBulk d + 1
 end
def uptoSmall : (H : Type) → List (DataW H) → Bool := fun _ ds => decide (uptoBulkAll ds ≤ 1048576)
def OpenSpec.upto (s : _root_.Go.ChangeSpec) : _root_.Go.OpenSpec := { _root_.Go.OpenSpec.ofChange s with cond := some uptoSmall }

/-- 'gangplanklaw1.EmbedIs', WHERE WHAT IT READS IS OF BULK AT MOST 1048576: true; the input reads as it did. -/
def embedIsUptoRow : OpenClaim := { program := "ytkjchddidpjjmaadoor", sum := "c34ae8d8b99a2cefd5b2c79cee5d145ad7ff6e33fb4e6da2f7a820e06368e97b", func := "gangplank/gangplanklaw1.EmbedIs", spec := "embedIs", inPlace := ["internal/reflectlite.ValueOf", "(internal/reflectlite.Value).Type", "(internal/reflectlite.Value).IsNil", "internal/reflectlite.TypeOf", "(internal/reflectlite.Value).Elem", "(internal/reflectlite.Value).Set"], unfollowed := true, recurses := true, named := ["errors.errorType"], apart := false, laid := [("errors.errorType", laid_errors_errorType)], narrowed := true }
def EmbedIsUptoSaid : Prop := embedIsUptoRow.holds Tryd.pinned (OpenSpec.upto embedIsSpec)

/-- 'gangplanklaw2.ShiftPlays', WHERE WHAT IT READS IS OF BULK AT MOST 1048576: true; the input reads as it did. -/
def shiftPlaysUptoRow : OpenClaim := { program := "ytkjchddidpjjmaadoor", sum := "c34ae8d8b99a2cefd5b2c79cee5d145ad7ff6e33fb4e6da2f7a820e06368e97b", func := "gangplank/gangplanklaw2.ShiftPlays", spec := "shiftPlays", inPlace := ["internal/reflectlite.ValueOf", "(internal/reflectlite.Value).Type", "(internal/reflectlite.Value).IsNil", "internal/reflectlite.TypeOf", "(internal/reflectlite.Value).Elem", "(internal/reflectlite.Value).Set"], unfollowed := true, recurses := true, named := ["errors.errorType"], apart := false, laid := [("errors.errorType", laid_errors_errorType)], narrowed := true }
def ShiftPlaysUptoSaid : Prop := shiftPlaysUptoRow.holds Tryd.pinned (OpenSpec.upto shiftPlaysSpec)

/-- 'gangplanklaw1.SegIs', WHERE WHAT IT READS IS OF BULK AT MOST 1048576: true; the input reads as it did. -/
def segIsUptoRow : OpenClaim := { program := "ytkjchddidpjjmaadoor", sum := "c34ae8d8b99a2cefd5b2c79cee5d145ad7ff6e33fb4e6da2f7a820e06368e97b", func := "gangplank/gangplanklaw1.SegIs", spec := "segIs", inPlace := ["internal/reflectlite.ValueOf", "(internal/reflectlite.Value).Type", "(internal/reflectlite.Value).IsNil", "internal/reflectlite.TypeOf", "(internal/reflectlite.Value).Elem", "(internal/reflectlite.Value).Set"], unfollowed := true, recurses := true, named := ["errors.errorType"], apart := false, laid := [("errors.errorType", laid_errors_errorType)], narrowed := true }
def SegIsUptoSaid : Prop := segIsUptoRow.holds Tryd.pinned (OpenSpec.upto segIsSpec)

/-- 'gangplanklaw1.SegBack', WHERE WHAT IT READS IS OF BULK AT MOST 1048576: true; the input reads as it did. -/
def segBackUptoRow : OpenClaim := { program := "ytkjchddidpjjmaadoor", sum := "c34ae8d8b99a2cefd5b2c79cee5d145ad7ff6e33fb4e6da2f7a820e06368e97b", func := "gangplank/gangplanklaw1.SegBack", spec := "segBack", inPlace := ["internal/reflectlite.ValueOf", "(internal/reflectlite.Value).Type", "(internal/reflectlite.Value).IsNil", "internal/reflectlite.TypeOf", "(internal/reflectlite.Value).Elem", "(internal/reflectlite.Value).Set"], unfollowed := true, recurses := true, named := ["errors.errorType"], apart := false, laid := [("errors.errorType", laid_errors_errorType)], narrowed := true }
def SegBackUptoSaid : Prop := segBackUptoRow.holds Tryd.pinned (OpenSpec.upto segBackSpec)

/-- 'gangplanklaw1.CrossIs', WHERE WHAT IT READS IS OF BULK AT MOST 1048576: true; the input reads as it did. -/
def crossIsUptoRow : OpenClaim := { program := "ytkjchddidpjjmaadoor", sum := "c34ae8d8b99a2cefd5b2c79cee5d145ad7ff6e33fb4e6da2f7a820e06368e97b", func := "gangplank/gangplanklaw1.CrossIs", spec := "crossIs", inPlace := ["internal/reflectlite.ValueOf", "(internal/reflectlite.Value).Type", "(internal/reflectlite.Value).IsNil", "internal/reflectlite.TypeOf", "(internal/reflectlite.Value).Elem", "(internal/reflectlite.Value).Set"], unfollowed := true, recurses := true, named := ["errors.errorType"], apart := false, laid := [("errors.errorType", laid_errors_errorType)], narrowed := true }
def CrossIsUptoSaid : Prop := crossIsUptoRow.holds Tryd.pinned (OpenSpec.upto crossIsSpec)

/-- 'gangplanklaw1.CrossBack', WHERE WHAT IT READS IS OF BULK AT MOST 1048576: true; the input reads as it did. -/
def crossBackUptoRow : OpenClaim := { program := "ytkjchddidpjjmaadoor", sum := "c34ae8d8b99a2cefd5b2c79cee5d145ad7ff6e33fb4e6da2f7a820e06368e97b", func := "gangplank/gangplanklaw1.CrossBack", spec := "crossBack", inPlace := ["internal/reflectlite.ValueOf", "(internal/reflectlite.Value).Type", "(internal/reflectlite.Value).IsNil", "internal/reflectlite.TypeOf", "(internal/reflectlite.Value).Elem", "(internal/reflectlite.Value).Set"], unfollowed := true, recurses := true, named := ["errors.errorType"], apart := false, laid := [("errors.errorType", laid_errors_errorType)], narrowed := true }
def CrossBackUptoSaid : Prop := crossBackUptoRow.holds Tryd.pinned (OpenSpec.upto crossBackSpec)

end Rows
end Go.Proofs.YtkjchddidpjjmaaDoor
