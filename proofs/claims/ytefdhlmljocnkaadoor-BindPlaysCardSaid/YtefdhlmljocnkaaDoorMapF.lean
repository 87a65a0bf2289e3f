/- Flows as a map's keys. Conditions: as each lemma states them. -/
import Derived.Test.YtefdhlmljocnkaaDoorMapG
namespace Go.Proofs.YtefdhlmljocnkaaDoor
open Go.RowKit
/-- Are two flows the same? -/
def flowEq (a b : Flow) : Bool := (a.kind == b.kind) && (sixEq a.client b.client && ((a.port == b.port) && (sixEq a.dst b.dst && (a.door == b.door))))
theorem flowEq_iff (a b : Flow) : flowEq a b = true ↔ a = b := by
  unfold flowEq
  simp only [Bool.and_eq_true, beq_iff_eq, sixEq_iff]
  constructor
  · rintro ⟨h1, h2, h3, h4, h5⟩
    cases a; cases b
    simp_all
  · rintro rfl
    exact ⟨rfl, rfl, rfl, rfl, rfl⟩
/-- A struct's fields compared, by types and places alone. -/
def eqTO (d : Nat) (xs ys : Array Value) : List (TypeId × Nat) → Sem Bool
  | [] => pure true
  | x :: r => do
    let a ← part x.1 xs x.2
    let b ← part x.1 ys x.2
    let q ← Op.equalIn d x.1 a b
    if (!q) = true then pure false else eqTO d xs ys r
theorem eqFields_TO (d : Nat) (xs ys : Array Value) (w : World) : ∀ fs : List Field, (fs.all fun f => decide (f.name ≠ "_")) = true → (Op.eqFields d xs ys fs).run Tryd.prog w = (eqTO d xs ys (fs.map fun f => (f.type, f.offset))).run Tryd.prog w
  | [], _ => rfl
  | f :: fs, h => by
    simp only [List.all_cons, Bool.and_eq_true, decide_eq_true_eq] at h
    unfold Op.eqFields
    rw [if_pos h.1]
    show _ = (eqTO d xs ys ((f.type, f.offset) :: fs.map fun f => (f.type, f.offset))).run Tryd.prog w
    unfold eqTO
    have ih := fun w => eqFields_TO d xs ys w fs h.2
    simp only [Sem.run_bind]
    refine congrArg ((part f.type xs f.offset).run Tryd.prog w).andThen (funext fun a => funext fun w1 => ?_)
    refine congrArg ((part f.type ys f.offset).run Tryd.prog w1).andThen (funext fun b => funext fun w2 => ?_)
    refine congrArg ((Op.equalIn d f.type a b).run Tryd.prog w2).andThen (funext fun q => funext fun w3 => ?_)
    cases q
    · rfl
    · exact ih w3
theorem eqTO_step {d : Nat} {xs ys : Array Value} {t : TypeId} {o : Nat} {r : List (TypeId × Nat)} {w : World} {a b : Value} {q p : Bool} (ha : (part t xs o).run Tryd.prog w = .ok a w) (hb : (part t ys o).run Tryd.prog w = .ok b w) (hq : (Op.equalIn d t a b).run Tryd.prog w = .ok q w)
    (h : (eqTO d xs ys r).run Tryd.prog w = .ok p w) : (eqTO d xs ys ((t, o) :: r)).run Tryd.prog w = .ok (q && p) w := by
  unfold eqTO
  simp only [Sem.run_bind, ha, hb, hq, Result.andThen_ok]
  cases q
  · rfl
  · exact h
set_option maxRecDepth 100000 in
theorem run_flowEq (a b : Flow) (w : World) : (Op.equalIn 10000 47 (.agg a.cells) (.agg b.cells)).run Tryd.prog w = .ok (flowEq a b) w := by
  have hI : ∀ x y : Int, (Op.equalIn 9999 3 (.int .i64 x) (.int .i64 y)).run Tryd.prog w = .ok (x == y) w := fun x y => run_equalIn_int w 9998 3 .i64 .i64 x y Tryd.underlying3
  have hS : ∀ x y : Six, (Op.equalIn 9999 23 (.agg x.cells) (.agg y.cells)).run Tryd.prog w = .ok (sixEq x y) w := fun x y => run_sixEq x y 9997 w
  have hfs : (Tryd.prog.fieldsOf 47).toList.map (fun f => (f.type, f.offset)) = [(3, 0), (23, 1), (3, 9), (23, 10), (3, 18)] := by kernel_rfl
  have p0 : ∀ f : Flow, (part 3 f.cells 0).run Tryd.prog w = .ok (.int .i64 f.kind) w := fun f => by kernel_rfl
  have p1 : ∀ f : Flow, (part 23 f.cells 1).run Tryd.prog w = .ok (.agg f.client.cells) w := fun f => by kernel_rfl
  have p2 : ∀ f : Flow, (part 3 f.cells 9).run Tryd.prog w = .ok (.int .i64 f.port) w := fun f => by kernel_rfl
  have p3 : ∀ f : Flow, (part 23 f.cells 10).run Tryd.prog w = .ok (.agg f.dst.cells) w := fun f => by kernel_rfl
  have p4 : ∀ f : Flow, (part 3 f.cells 18).run Tryd.prog w = .ok (.int .i64 f.door) w := fun f => by kernel_rfl
  rw [run_equalIn_struct w 9999 47 a.cells b.cells (by kernel_rfl) (by kernel_rfl), eqFields_TO _ _ _ _ _ (by kernel_rfl), hfs]
  have := eqTO_step (p0 a) (p0 b) (hI _ _) (eqTO_step (p1 a) (p1 b) (hS _ _) (eqTO_step (p2 a) (p2 b) (hI _ _) (eqTO_step (p3 a) (p3 b) (hS _ _) (eqTO_step (r := []) (p := true) (p4 a) (p4 b) (hI _ _) rfl))))
  rw [this]
  unfold flowEq
  rw [Bool.and_true]
set_option maxRecDepth 100000 in
theorem flow_check (e : Bool) (k : Flow) (w : World) : (Instr.checkKey e 10000 47 k.v).run Tryd.prog w = .ok () w := by kernel_rfl
/-- Flows as keys. -/
def keyF : Keys Flow where
  f := Flow.v
  t := 47
  eq := flowEq
  eq_iff := flowEq_iff
  check := flow_check
  bits k := by simp [Instr.sameBits, Flow.cells]
theorem keyF_finds : keyF.Finds := finds_asking keyF _ Tryd.underlying47 (fun _ _ => rfl) fun a b w => run_flowEq a b w
end Go.Proofs.YtefdhlmljocnkaaDoor
