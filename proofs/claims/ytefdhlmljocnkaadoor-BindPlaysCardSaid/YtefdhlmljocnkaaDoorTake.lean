/- A load in a drawn region, by what is known of its run. Conditions: as the lemma states them. -/
import Derived.Test.YtefdhlmljocnkaaDoorMem
namespace Go.Proofs.YtefdhlmljocnkaaDoor
open Go.RowKit
theorem exec_load {P : Program} {o : Oper} {ρ : Operand → Value} {w : World} {ty : TypeId} {x : Operand} {p : Addr} {v : Value} (ho : o.op = .load ty x) (hx : ρ x = .pointer (some p)) (h : (Instr.loadAt ty (.pointer (some p))).run P w = .ok v w) :
    (execOp ρ o).run P w = .ok (.value v) w := by
  unfold execOp
  simp only [ho, hx, Sem.run_bind, h, Result.andThen_ok, Sem.run_pure]
end Go.Proofs.YtefdhlmljocnkaaDoor
