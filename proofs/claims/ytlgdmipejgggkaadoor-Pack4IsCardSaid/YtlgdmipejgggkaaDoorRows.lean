/-
  NARROWER THAN 'FOR EVERY INPUT', by the rows' own cells (each row's printed sentence says how): SumIs: laid · Pack6Is: laid · Pack6Back: laid · Pack4Is: laid · SegOver: laid.
  DERIVED. THE GIVEN ROWS OF THIS SEAT. 5 by the template 'for every input the law returns true; each argument reads behind the call as it read before'; 0 by the template 'total and deterministic' (their statements: YtlgdmipejgggkaaDoorTotals.lean).
  GIVEN WITH THE SEED: the statements are not yours to turn. If you find one false, say at which input.
  Laid BY PROGRAM, IN A SANDBOX (cutbox-rows.mjs): the forced cells as the released guide's own fill.sh prints them over the translation 9a50e4f9514ae5fb… (all of the seat's roots in one cut). By AI agents, Wed Nov 11 2026. No macro, syntax, notation, axiom, sorry.
-/
import Derived.Test.YtlgdmipejgggkaaDoorChecked
import GoSem.Claim
import GoSem.ClaimJoined
import GoSem.ClaimMapViews
import Derived.JoinedTies
import Derived.KernelRfl
namespace Go.Proofs.YtlgdmipejgggkaaDoor
/- THE CELL 'sum', in the pinned program and in every row, IS THE sha256 OF THE DUMP (.gsa) THAT YtlgdmipejgggkaaDoorProg.lean LOADS. Nothing in Lean hashes anything: it is a label: what it is worth is what the hold of that sum in a sandbox is worth. -/
noncomputable def Tryd.pinned : Pinned := { name := "ytlgdmipejgggkaadoor", sum := "9a50e4f9514ae5fb302cb3dab7ce127cace24d99c42553210324d1f9266e65c1", checked := Tryd.checked }
namespace Rows
def none {H : Type} : Left H := { results := [], args := [] }

/- WHAT THE LISTED PACKAGE-LEVEL VARIABLES READ AS WHEN THE CALL BEGINS. Each datum BY PROGRAM (the guide's laid-datum.mjs) off the statement by which the dump's own 'gosem.cut.vars' lays the variable. In a bare row this is a premise. The card (YtlgdmipejgggkaaDoorCards.lean) ties it to the program's text. -/
def laid_errors_errorType {H : Type} : DataW H := .iface "internal/reflectlite.rtype" (.agg [.ptr (.lit (.string [101, 114, 114, 111, 114]))])

/-- 'gangplanklaw1.SumIs': WHATEVER THE INPUT: true; the input reads as it did. -/
def sumIsSpec : ChangeSpec := { name := "sumIs", fn := fun _ => fun
  | [d1, d2, d3, d4] => { results := [.lit (.bool true)], args := [d1, d2, d3, d4] }
  | _ => none }
def sumIsRow : OpenClaim := { program := "ytlgdmipejgggkaadoor", sum := "9a50e4f9514ae5fb302cb3dab7ce127cace24d99c42553210324d1f9266e65c1", func := "gangplank/gangplanklaw1.SumIs", spec := "sumIs", inPlace := ["internal/reflectlite.ValueOf", "(internal/reflectlite.Value).Type", "(internal/reflectlite.Value).IsNil", "internal/reflectlite.TypeOf", "(internal/reflectlite.Value).Elem", "(internal/reflectlite.Value).Set"], unfollowed := true, recurses := true, named := ["errors.errorType"], apart := false, laid := [("errors.errorType", laid_errors_errorType)] }
def SumIsSaid : Prop := sumIsRow.holds Tryd.pinned (OpenSpec.ofChange sumIsSpec)

/-- ITS FALSE NEIGHBOUR: 'it returns false'. Refute it at one input. -/
def sumIsWrong : ChangeSpec := { name := "sumIs", fn := fun _ => fun
  | [d1, d2, d3, d4] => { results := [.lit (.bool false)], args := [d1, d2, d3, d4] }
  | _ => none }
def SumIsWrongFalsely : Prop := sumIsRow.holds Tryd.pinned (OpenSpec.ofChange sumIsWrong)

/-- 'gangplanklaw1.Pack6Is': WHATEVER THE INPUT: true; the input reads as it did. -/
def pack6IsSpec : ChangeSpec := { name := "pack6Is", fn := fun _ => fun
  | [d1, d2] => { results := [.lit (.bool true)], args := [d1, d2] }
  | _ => none }
def pack6IsRow : OpenClaim := { program := "ytlgdmipejgggkaadoor", sum := "9a50e4f9514ae5fb302cb3dab7ce127cace24d99c42553210324d1f9266e65c1", func := "gangplank/gangplanklaw1.Pack6Is", spec := "pack6Is", inPlace := ["internal/reflectlite.ValueOf", "(internal/reflectlite.Value).Type", "(internal/reflectlite.Value).IsNil", "internal/reflectlite.TypeOf", "(internal/reflectlite.Value).Elem", "(internal/reflectlite.Value).Set"], unfollowed := true, recurses := true, named := ["errors.errorType"], apart := false, laid := [("errors.errorType", laid_errors_errorType)] }
def Pack6IsSaid : Prop := pack6IsRow.holds Tryd.pinned (OpenSpec.ofChange pack6IsSpec)

/-- ITS FALSE NEIGHBOUR: 'it returns false'. Refute it at one input. -/
def pack6IsWrong : ChangeSpec := { name := "pack6Is", fn := fun _ => fun
  | [d1, d2] => { results := [.lit (.bool false)], args := [d1, d2] }
  | _ => none }
def Pack6IsWrongFalsely : Prop := pack6IsRow.holds Tryd.pinned (OpenSpec.ofChange pack6IsWrong)

/-- 'gangplanklaw1.Pack6Back': WHATEVER THE INPUT: true; the input reads as it did. -/
def pack6BackSpec : ChangeSpec := { name := "pack6Back", fn := fun _ => fun
  | [d1, d2, d3, d4] => { results := [.lit (.bool true)], args := [d1, d2, d3, d4] }
  | _ => none }
def pack6BackRow : OpenClaim := { program := "ytlgdmipejgggkaadoor", sum := "9a50e4f9514ae5fb302cb3dab7ce127cace24d99c42553210324d1f9266e65c1", func := "gangplank/gangplanklaw1.Pack6Back", spec := "pack6Back", inPlace := ["internal/reflectlite.ValueOf", "(internal/reflectlite.Value).Type", "(internal/reflectlite.Value).IsNil", "internal/reflectlite.TypeOf", "(internal/reflectlite.Value).Elem", "(internal/reflectlite.Value).Set"], unfollowed := true, recurses := true, named := ["errors.errorType"], apart := false, laid := [("errors.errorType", laid_errors_errorType)] }
def Pack6BackSaid : Prop := pack6BackRow.holds Tryd.pinned (OpenSpec.ofChange pack6BackSpec)

/-- ITS FALSE NEIGHBOUR: 'it returns false'. Refute it at one input. -/
def pack6BackWrong : ChangeSpec := { name := "pack6Back", fn := fun _ => fun
  | [d1, d2, d3, d4] => { results := [.lit (.bool false)], args := [d1, d2, d3, d4] }
  | _ => none }
def Pack6BackWrongFalsely : Prop := pack6BackRow.holds Tryd.pinned (OpenSpec.ofChange pack6BackWrong)

/-- 'gangplanklaw1.Pack4Is': WHATEVER THE INPUT: true; the input reads as it did. -/
def pack4IsSpec : ChangeSpec := { name := "pack4Is", fn := fun _ => fun
  | [d1, d2] => { results := [.lit (.bool true)], args := [d1, d2] }
  | _ => none }
def pack4IsRow : OpenClaim := { program := "ytlgdmipejgggkaadoor", sum := "9a50e4f9514ae5fb302cb3dab7ce127cace24d99c42553210324d1f9266e65c1", func := "gangplank/gangplanklaw1.Pack4Is", spec := "pack4Is", inPlace := ["internal/reflectlite.ValueOf", "(internal/reflectlite.Value).Type", "(internal/reflectlite.Value).IsNil", "internal/reflectlite.TypeOf", "(internal/reflectlite.Value).Elem", "(internal/reflectlite.Value).Set"], unfollowed := true, recurses := true, named := ["errors.errorType"], apart := false, laid := [("errors.errorType", laid_errors_errorType)] }
def Pack4IsSaid : Prop := pack4IsRow.holds Tryd.pinned (OpenSpec.ofChange pack4IsSpec)

/-- ITS FALSE NEIGHBOUR: 'it returns false'. Refute it at one input. -/
def pack4IsWrong : ChangeSpec := { name := "pack4Is", fn := fun _ => fun
  | [d1, d2] => { results := [.lit (.bool false)], args := [d1, d2] }
  | _ => none }
def Pack4IsWrongFalsely : Prop := pack4IsRow.holds Tryd.pinned (OpenSpec.ofChange pack4IsWrong)

/-- 'gangplanklaw1.SegOver': WHATEVER THE INPUT: true; the input reads as it did. -/
def segOverSpec : ChangeSpec := { name := "segOver", fn := fun _ => fun
  | [d1, d2, d3, d4, d5, d6] => { results := [.lit (.bool true)], args := [d1, d2, d3, d4, d5, d6] }
  | _ => none }
def segOverRow : OpenClaim := { program := "ytlgdmipejgggkaadoor", sum := "9a50e4f9514ae5fb302cb3dab7ce127cace24d99c42553210324d1f9266e65c1", func := "gangplank/gangplanklaw1.SegOver", spec := "segOver", inPlace := ["internal/reflectlite.ValueOf", "(internal/reflectlite.Value).Type", "(internal/reflectlite.Value).IsNil", "internal/reflectlite.TypeOf", "(internal/reflectlite.Value).Elem", "(internal/reflectlite.Value).Set"], unfollowed := true, recurses := true, named := ["errors.errorType"], apart := false, laid := [("errors.errorType", laid_errors_errorType)] }
def SegOverSaid : Prop := segOverRow.holds Tryd.pinned (OpenSpec.ofChange segOverSpec)

/-- ITS FALSE NEIGHBOUR: 'it returns false'. Refute it at one input. -/
def segOverWrong : ChangeSpec := { name := "segOver", fn := fun _ => fun
  | [d1, d2, d3, d4, d5, d6] => { results := [.lit (.bool false)], args := [d1, d2, d3, d4, d5, d6] }
  | _ => none }
def SegOverWrongFalsely : Prop := segOverRow.holds Tryd.pinned (OpenSpec.ofChange segOverWrong)

/- THE SECOND FORM. 'bulk': how many values and letters a reading holds, each counted each time it is reached (what is shared counts as often as it is met; a slice's spare places count too). A statement '..UptoSaid' is the law's where the arguments, and the package variables that the reading takes, are together of bulk at most 1048576: NARROWER than '..Said'. Prove '..Said' where nothing that the law and all that it calls make is longer than what came in: it says more and counts as full. Else prove '..UptoSaid'. A law counts once. -/
mutual
def uptoBulk {H : Type} : DataW H → Nat
  | .lit (.string bytes) => bytes.length + 1
  | .lit _ => 1
  | .nil => 1
  | .ptr d => uptoBulk d + 1
  | .slice elems spare => uptoBulkAll elems + uptoBulkAll spare + 1
  | .agg parts => uptoBulkAll parts + 1
  | .iface _ d => uptoBulk d + 1
  | .map entries => uptoBulkEntries entries + 1
  | .held _ => 1
def uptoBulkAll {H : Type} : List (DataW H) → Nat
  | [] => 0
  | d :: r => uptoBulk d + uptoBulkAll r
def uptoBulkEntries {H : Type} : List (Lit × DataW H) → Nat
  | [] => 0
  | x :: r => uptoBulkEntry x + uptoBulkEntries r
def uptoBulkEntry {H : Type} : Lit × DataW H → Nat
  | (.string bytes, d) => bytes.length + uptoBulk d + 1
  | (_, d) => uptoBulk d + 1
 end
def uptoSmall : (H : Type) → List (DataW H) → Bool := fun _ ds => decide (uptoBulkAll ds ≤ 1048576)
def OpenSpec.upto (s : _root_.Go.ChangeSpec) : _root_.Go.OpenSpec := { _root_.Go.OpenSpec.ofChange s with cond := some uptoSmall }

/-- 'gangplanklaw1.SumIs', WHERE WHAT IT READS IS OF BULK AT MOST 1048576: true; the input reads as it did. -/
def sumIsUptoRow : OpenClaim := { program := "ytlgdmipejgggkaadoor", sum := "9a50e4f9514ae5fb302cb3dab7ce127cace24d99c42553210324d1f9266e65c1", func := "gangplank/gangplanklaw1.SumIs", spec := "sumIs", inPlace := ["internal/reflectlite.ValueOf", "(internal/reflectlite.Value).Type", "(internal/reflectlite.Value).IsNil", "internal/reflectlite.TypeOf", "(internal/reflectlite.Value).Elem", "(internal/reflectlite.Value).Set"], unfollowed := true, recurses := true, named := ["errors.errorType"], apart := false, laid := [("errors.errorType", laid_errors_errorType)], narrowed := true }
def SumIsUptoSaid : Prop := sumIsUptoRow.holds Tryd.pinned (OpenSpec.upto sumIsSpec)

/-- 'gangplanklaw1.Pack6Is', WHERE WHAT IT READS IS OF BULK AT MOST 1048576: true; the input reads as it did. -/
def pack6IsUptoRow : OpenClaim := { program := "ytlgdmipejgggkaadoor", sum := "9a50e4f9514ae5fb302cb3dab7ce127cace24d99c42553210324d1f9266e65c1", func := "gangplank/gangplanklaw1.Pack6Is", spec := "pack6Is", inPlace := ["internal/reflectlite.ValueOf", "(internal/reflectlite.Value).Type", "(internal/reflectlite.Value).IsNil", "internal/reflectlite.TypeOf", "(internal/reflectlite.Value).Elem", "(internal/reflectlite.Value).Set"], unfollowed := true, recurses := true, named := ["errors.errorType"], apart := false, laid := [("errors.errorType", laid_errors_errorType)], narrowed := true }
def Pack6IsUptoSaid : Prop := pack6IsUptoRow.holds Tryd.pinned (OpenSpec.upto pack6IsSpec)

/-- 'gangplanklaw1.Pack6Back', WHERE WHAT IT READS IS OF BULK AT MOST 1048576: true; the input reads as it did. -/
def pack6BackUptoRow : OpenClaim := { program := "ytlgdmipejgggkaadoor", sum := "9a50e4f9514ae5fb302cb3dab7ce127cace24d99c42553210324d1f9266e65c1", func := "gangplank/gangplanklaw1.Pack6Back", spec := "pack6Back", inPlace := ["internal/reflectlite.ValueOf", "(internal/reflectlite.Value).Type", "(internal/reflectlite.Value).IsNil", "internal/reflectlite.TypeOf", "(internal/reflectlite.Value).Elem", "(internal/reflectlite.Value).Set"], unfollowed := true, recurses := true, named := ["errors.errorType"], apart := false, laid := [("errors.errorType", laid_errors_errorType)], narrowed := true }
def Pack6BackUptoSaid : Prop := pack6BackUptoRow.holds Tryd.pinned (OpenSpec.upto pack6BackSpec)

/-- 'gangplanklaw1.Pack4Is', WHERE WHAT IT READS IS OF BULK AT MOST 1048576: true; the input reads as it did. -/
def pack4IsUptoRow : OpenClaim := { program := "ytlgdmipejgggkaadoor", sum := "9a50e4f9514ae5fb302cb3dab7ce127cace24d99c42553210324d1f9266e65c1", func := "gangplank/gangplanklaw1.Pack4Is", spec := "pack4Is", inPlace := ["internal/reflectlite.ValueOf", "(internal/reflectlite.Value).Type", "(internal/reflectlite.Value).IsNil", "internal/reflectlite.TypeOf", "(internal/reflectlite.Value).Elem", "(internal/reflectlite.Value).Set"], unfollowed := true, recurses := true, named := ["errors.errorType"], apart := false, laid := [("errors.errorType", laid_errors_errorType)], narrowed := true }
def Pack4IsUptoSaid : Prop := pack4IsUptoRow.holds Tryd.pinned (OpenSpec.upto pack4IsSpec)

/-- 'gangplanklaw1.SegOver', WHERE WHAT IT READS IS OF BULK AT MOST 1048576: true; the input reads as it did. -/
def segOverUptoRow : OpenClaim := { program := "ytlgdmipejgggkaadoor", sum := "9a50e4f9514ae5fb302cb3dab7ce127cace24d99c42553210324d1f9266e65c1", func := "gangplank/gangplanklaw1.SegOver", spec := "segOver", inPlace := ["internal/reflectlite.ValueOf", "(internal/reflectlite.Value).Type", "(internal/reflectlite.Value).IsNil", "internal/reflectlite.TypeOf", "(internal/reflectlite.Value).Elem", "(internal/reflectlite.Value).Set"], unfollowed := true, recurses := true, named := ["errors.errorType"], apart := false, laid := [("errors.errorType", laid_errors_errorType)], narrowed := true }
def SegOverUptoSaid : Prop := segOverUptoRow.holds Tryd.pinned (OpenSpec.upto segOverSpec)

end Rows
end Go.Proofs.YtlgdmipejgggkaaDoor
