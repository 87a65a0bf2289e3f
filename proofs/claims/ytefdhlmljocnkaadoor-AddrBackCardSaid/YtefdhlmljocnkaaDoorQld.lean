/- A load in a quiet walk of a region, its run known. Conditions: as each lemma states them. -/
import Derived.Test.YtefdhlmljocnkaaDoorMem
import Derived.BigQuiet
namespace Go.Proofs.YtefdhlmljocnkaaDoor
open Go.RowKit
/-- A load in a quiet walk of a region, its run known. -/
theorem quiet_ld {P : Program} {C : World → Prop} {a : Act} {o : Oper} {K : Act → Prop} (ty : TypeId) (x : Operand) (ho : o.op = .load ty x) {p v : Value} (hx : a.eval x = p) (h : ∀ w, C w → (Instr.loadAt ty p).run P w = .ok v w) (hk : K (a.put o.dst v)) : o.quiet P a C K := by
  refine ⟨v, fun w hw => ?_, hk⟩
  unfold Oper.quietAt execOp
  simp only [ho, hx, Sem.run_bind, h w hw, Result.andThen_ok, Sem.run_pure]
  exact ⟨rfl, rfl⟩
end Go.Proofs.YtefdhlmljocnkaaDoor
