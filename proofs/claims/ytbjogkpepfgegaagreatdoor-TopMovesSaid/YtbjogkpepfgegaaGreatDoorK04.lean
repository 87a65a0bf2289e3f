/- Lemmas of this seat, bound together: MapG MapF Take Ip6 Ip6e Or8 Str Tail. Conditions: as each lemma states them. -/
import Derived.Test.YtbjogkpepfgegaaGreatDoorK01
import Derived.Test.YtbjogkpepfgegaaGreatDoorK03
import Derived.Maps.RangeWalk
import Derived.Maps.Own
import Derived.Test.YtbjogkpepfgegaaGreatDoorK02
import Derived.Deep.RegionHeld3
import Derived.Deep.DeepCutAuto
import Derived.Deep.DeepMust
import Derived.Test.YtbjogkpepfgegaaGreatDoorK00
import Derived.Laws.BytesArg
import Derived.Laws.OwnMore
import Derived.WalkSpells
namespace Go.Proofs.YtbjogkpepfgegaaGreatDoor
open Go.RowKit
/-- An entry: its key, value, stamp. -/
structure Ent (κ : Type) where
  key : κ
  val : Value
  born : Nat
/-- A kind of keys: how they lie, and that the model tells them apart. -/
structure Keys (κ : Type) where
  f : κ → Value
  t : TypeId
  eq : κ → κ → Bool
  eq_iff : ∀ a b, eq a b = true ↔ a = b
  check : ∀ (e : Bool) (k : κ) (w : World), (Instr.checkKey e 10000 t (f k)).run Tryz.prog w = .ok () w
  bits : ∀ k, Instr.sameBits 10000 (f k) (f k) = true
namespace Keys
variable {κ : Type} (K : Keys κ)
def ent (x : Ent κ) : MapEntry := ⟨K.f x.key, x.val, x.born⟩
/-- Where a key is, and what it has. -/
def look {κ : Type} (K : Keys κ) (k : κ) : List (Ent κ) → Nat → Option (Nat × Value)
  | [], _ => none
  | x :: r, i => if K.eq k x.key = true then some (i, x.val) else look K k r (i + 1)
/-- The model finds a key so. -/
def Finds : Prop := ∀ (k : κ) (l : List (Ent κ)) (w : World), (Instr.findKey K.t (K.f k) (l.map K.ent)).run Tryz.prog w = .ok (K.look k l 0) w
end Keys
theorem finds_now {κ : Type} (K : Keys κ) (d : TypeDesc) (hd : Tryz.prog.underlying K.t = some d) (h : ∀ a b, Instr.sameNow d (K.f a) (K.f b) = some (K.eq a b)) : K.Finds := by
  intro k l w
  have key : ∀ (l : List (Ent κ)) (i : Nat), Instr.findNow d (K.f k) (l.map K.ent) i = some (K.look k l i) := by
    intro l
    induction l with
    | nil => intro i; rfl
    | cons x r ih =>
      intro i
      show (match Instr.sameNow d (K.f k) (K.f x.key) with | some true => _ | some false => _ | none => none) = _
      rw [h]
      unfold Keys.look
      cases hq : K.eq k x.key
      · exact ih (i + 1)
      · rfl
  unfold Instr.findKey
  simp only [Sem.run_bind, run_underlying hd, Result.andThen_ok, key, Sem.run_pure]
theorem finds_asking {κ : Type} (K : Keys κ) (d : TypeDesc) (hd : Tryz.prog.underlying K.t = some d) (hn : ∀ a b, Instr.sameNow d (K.f a) (K.f b) = none) (h : ∀ a b (w : World), (Op.equal K.t (K.f a) (K.f b)).run Tryz.prog w = .ok (K.eq a b) w) : K.Finds := by
  intro k l w
  have key : ∀ (l : List (Ent κ)) (i : Nat), (Instr.findAsking K.t (K.f k) (l.map K.ent) i).run Tryz.prog w = .ok (K.look k l i) w := by
    intro l
    induction l with
    | nil => intro i; rfl
    | cons x r ih =>
      intro i
      have e1 : (Op.equal K.t (K.f k) (K.ent x).key).run Tryz.prog w = .ok (K.eq k x.key) w := h k x.key w
      simp only [List.map_cons, Instr.findAsking, Sem.run_bind, e1, Result.andThen_ok]
      unfold Keys.look
      cases hq : K.eq k x.key
      · exact ih (i + 1)
      · rfl
  unfold Instr.findKey
  cases l with
  | nil => simp only [Sem.run_bind, run_underlying hd, Result.andThen_ok]; rfl
  | cons x r =>
    have e2 : Instr.findNow d (K.f k) ((x :: r).map K.ent) 0 = none := by
      show (match Instr.sameNow d (K.f k) (K.f x.key) with | some true => _ | some false => _ | none => none) = _
      rw [hn]
    simp only [Sem.run_bind, run_underlying hd, Result.andThen_ok, e2]
    exact key (x :: r) 0
/-- A map in memory. -/
structure MapIs {κ : Type} (K : Keys κ) (w : World) (g : Nat) (l : List (Ent κ)) (clock : Nat) : Prop where
  here : w.heap[g]? = some (.map (l.map K.ent).toArray clock)
  old : ∀ x ∈ l, x.born < clock
section
variable {κ : Type} {K : Keys κ} {w : World} {g : Nat} {l : List (Ent κ)} {clock : Nat}
theorem MapIs.lt (h : MapIs K w g l clock) : g < w.heap.size := (Array.getElem?_eq_some_iff.1 h.here).1
theorem MapIs.ext {w' : World} (h : MapIs K w g l clock) (k : Ext w w') : MapIs K w' g l clock := ⟨(Below.block k g h.lt).trans h.here, h.old⟩
theorem MapIs.set {q : Addr} (h : MapIs K w g l clock) (u : Value) (hq : g ≠ q.block) : MapIs K (w.setCell q u) g l clock := ⟨(Below.heap_setCell w q u g hq).trans h.here, h.old⟩
theorem MapIs.only {w' : World} {r : Option Nat} (h : MapIs K w g l clock) (k : w.grownBy w' r) (hr : some g ≠ r) : MapIs K w' g l clock := ⟨(k.block g h.lt hr).trans h.here, h.old⟩
theorem MapIs.drewN (h : MapIs K w g l clock) (n : Nat) : MapIs K (w.drewN n) g l clock := ⟨h.here, h.old⟩
/-- m[k], with ok. -/
theorem MapIs.lookup (h : MapIs K w g l clock) (hF : K.Finds) (mt e : TypeId) (hm : Tryz.prog.underlying mt = some (.map K.t e)) (z : Value) (hz : (zeroValue e).run Tryz.prog w = .ok z w) (k : κ) (ok : Bool) :
    (Instr.lookup mt (.map (some g)) (K.f k) ok).run Tryz.prog w = .ok (match K.look k l 0 with | some (_, v) => if ok then .tuple #[v, .bool true] else v | none => if ok then .tuple #[z, .bool false] else z) w := by
  have hf := hF k l w
  have hc := K.check (l.map K.ent).toArray.isEmpty k w
  unfold Instr.lookup
  simp only [Sem.run_bind, run_underlying hm, Result.andThen_ok, MapKept.run_getObj_map h.here, Sem.run_pure, hc, hf]
  cases K.look k l 0 with
  | none => simp only [Sem.run_bind, hz, Result.andThen_ok, Sem.run_pure]
  | some x => cases ok <;> rfl
/-- A map written anew. -/
def putMap {κ : Type} (K : Keys κ) (w : World) (g : Nat) (l : List (Ent κ)) (clock : Nat) : World := { w with heap := w.heap.setIfInBounds g (.map (l.map K.ent).toArray clock) }
theorem putMap_other (K : Keys κ) (w : World) (g : Nat) (l : List (Ent κ)) (clock : Nat) {i : Nat} (hi : i ≠ g) : (putMap K w g l clock).heap[i]? = w.heap[i]? := by
  show (w.heap.setIfInBounds g _)[i]? = _
  rw [Array.getElem?_setIfInBounds_ne (fun e => hi e.symm)]
theorem putMap_size (K : Keys κ) (w : World) (g : Nat) (l : List (Ent κ)) (clock : Nat) : (putMap K w g l clock).heap.size = w.heap.size := by
  show (w.heap.setIfInBounds g _).size = _
  simp
theorem MapIs.put (h : MapIs K w g l clock) (l' : List (Ent κ)) (c' : Nat) (ho : ∀ x ∈ l', x.born < c') : MapIs K (putMap K w g l' c') g l' c' := by
  refine ⟨?_, ho⟩
  show (w.heap.setIfInBounds g _)[g]? = _
  rw [Array.getElem?_setIfInBounds_self, if_pos h.lt]
theorem putMap_grown (K : Keys κ) (w : World) (g : Nat) (l : List (Ent κ)) (clock : Nat) : w.grownBy (putMap K w g l clock) (some g) :=
  ⟨rfl, rfl, rfl, Nat.le_of_eq (putMap_size K w g l clock).symm, fun i _ hne => putMap_other K w g l clock (fun e => hne (by rw [e]))⟩
/-- m[k] = v at a new key. -/
theorem MapIs.insert (h : MapIs K w g l clock) (hF : K.Finds) (mt e : TypeId) (hm : Tryz.prog.underlying mt = some (.map K.t e)) (k : κ) (v : Value) (hk : K.look k l 0 = none) :
    (Instr.mapUpdate mt (.map (some g)) (K.f k) v).run Tryz.prog w = .ok () (putMap K w g (l ++ [⟨k, v, clock⟩]) (clock + 1)) := by
  have hf := hF k l w
  rw [hk] at hf
  have hc := K.check false k w
  unfold Instr.mapUpdate
  simp only [Sem.run_bind, run_underlying hm, Result.andThen_ok, MapKept.run_getObj_map h.here, hc, hf, MapKept.run_setObj_map _ h.here]
  unfold putMap
  simp [Keys.ent]
/-- The entry at a place with another value. -/
def setVal (l : List (Ent κ)) (i : Nat) (v : Value) : List (Ent κ) := l.modify i fun x => { x with val := v }
theorem look_at {k : κ} {v : Value} {i : Nat} : ∀ {l : List (Ent κ)} {o : Nat}, K.look k l o = some (i, v) → ∃ x, o ≤ i ∧ l[i - o]? = some x ∧ x.key = k ∧ x.val = v
  | [], o, h => by cases h
  | x :: r, o, h => by
    unfold Keys.look at h
    split at h
    · rename_i hq
      cases h
      exact ⟨x, Nat.le_refl _, by rw [Nat.sub_self]; rfl, ((K.eq_iff k x.key).1 hq).symm, rfl⟩
    · obtain ⟨y, h0, h1, h2, h3⟩ := look_at (l := r) (o := o + 1) h
      refine ⟨y, by omega, ?_, h2, h3⟩
      rw [show i - o = (i - (o + 1)) + 1 by omega]
      exact h1
theorem look_none {k : κ} : ∀ {l : List (Ent κ)} {o : Nat}, K.look k l o = none → ∀ x ∈ l, x.key ≠ k
  | [], _, _, x, hx => by cases hx
  | y :: r, o, h, x, hx => by
    unfold Keys.look at h
    split at h
    · cases h
    · rename_i hq
      rcases List.mem_cons.1 hx with rfl | hx
      · exact fun he => hq ((K.eq_iff k x.key).2 he.symm)
      · exact look_none (l := r) h x hx
theorem look_of {k : κ} : ∀ {l : List (Ent κ)} {o : Nat}, (∀ x ∈ l, x.key ≠ k) → K.look k l o = none
  | [], _, _ => rfl
  | y :: r, o, h => by
    unfold Keys.look
    rw [if_neg (fun hq => h y (List.mem_cons_self ..) ((K.eq_iff k y.key).1 hq).symm)]
    exact look_of fun x hx => h x (List.mem_cons_of_mem _ hx)
theorem look_here {x : Ent κ} : ∀ {l : List (Ent κ)} {o i : Nat}, (l.map (·.key)).Nodup → l[i]? = some x → K.look x.key l o = some (o + i, x.val)
  | [], _, _, _, h => by cases h
  | y :: r, o, i, hn, h => by
    rw [List.map_cons, List.nodup_cons] at hn
    unfold Keys.look
    cases i with
    | zero =>
      obtain rfl : y = x := Option.some.inj h
      rw [if_pos ((K.eq_iff y.key y.key).2 rfl)]
      rfl
    | succ i =>
      have h' : r[i]? = some x := h
      rw [if_neg (fun hq => hn.1 (by rw [← (K.eq_iff x.key y.key).1 hq]; exact List.mem_map_of_mem (List.mem_of_getElem? h'))), look_here hn.2 h']
      congr 2
      omega
/-- m[k] = v at a key that is there. -/
theorem MapIs.update (h : MapIs K w g l clock) (hF : K.Finds) (mt e : TypeId) (hm : Tryz.prog.underlying mt = some (.map K.t e)) (k : κ) (v u : Value) (i : Nat) (hk : K.look k l 0 = some (i, u)) :
    (Instr.mapUpdate mt (.map (some g)) (K.f k) v).run Tryz.prog w = .ok () (putMap K w g (setVal l i v) clock) := by
  have hf := hF k l w
  rw [hk] at hf
  have hc := K.check false k w
  obtain ⟨x, _, hx, hxk, _⟩ := look_at hk
  rw [Nat.sub_zero] at hx
  have hkey : (((l.map K.ent).toArray[i]?).map (·.key)).getD (K.f k) = K.f k := by
    rw [List.getElem?_toArray, List.getElem?_map, hx]
    show K.f x.key = K.f k
    rw [hxk]
  have hst : (Instr.keyThatStays (K.f k) (K.f k)).run Tryz.prog w = .ok (K.f k) w := by
    unfold Instr.keyThatStays
    rw [if_pos (K.bits k)]
    rfl
  have hA : ((l.map K.ent).toArray.modify i fun y => { y with key := K.f k, val := v }) = ((setVal l i v).map K.ent).toArray := by
    refine Array.ext_getElem? fun j => ?_
    rw [Array.getElem?_modify, List.getElem?_toArray, List.getElem?_toArray, List.getElem?_map, List.getElem?_map]
    unfold setVal
    rw [List.getElem?_modify]
    by_cases hj : i = j
    · subst hj
      rw [if_pos rfl, hx]
      simp [Keys.ent, hxk]
    · rw [if_neg hj]
      simp [hj]
  unfold Instr.mapUpdate
  simp only [Sem.run_bind, run_underlying hm, Result.andThen_ok, MapKept.run_getObj_map h.here, hc, hf, hkey, hst, MapKept.run_setObj_map _ h.here, hA]
  exact rfl
/-- delete at a key that is there. -/
theorem MapIs.delete (h : MapIs K w g l clock) (hF : K.Finds) (mt e ty : TypeId) (hm : Tryz.prog.underlying mt = some (.map K.t e)) (k : κ) (u : Value) (i : Nat) (hk : K.look k l 0 = some (i, u)) :
    (Builtin.delete_ #[mt, K.t] ty #[.map (some g), K.f k]).run Tryz.prog w = .ok (.tuple #[]) (putMap K w g (l.eraseIdx i) clock) := by
  have hf := hF k l w
  rw [hk] at hf
  have hc := fun b => K.check b k w
  simp [Builtin.delete_, run_underlying hm, MapKept.run_getObj_map h.here, hc, hf, MapKept.run_setObj_map _ h.here, Result.andThen, putMap]
  rw [ChangeMaps.map_eraseIdx]
end
/-- Numbers as keys. -/
def keyI : Keys Int where
  f := Value.int .i64
  t := 3
  eq a b := a == b
  eq_iff a b := by simp
  check e k w := by kernel_rfl
  bits k := by simp [Instr.sameBits]
theorem keyI_finds : keyI.Finds := finds_now keyI _ Tryz.underlying3 fun a b => by simp [Instr.sameNow, keyI]
end Go.Proofs.YtbjogkpepfgegaaGreatDoor
namespace Go.Proofs.YtbjogkpepfgegaaGreatDoor
open Go.RowKit
/-- Are two flows the same? -/
def flowEq (a b : Flow) : Bool := (a.kind == b.kind) && (sixEq a.client b.client && ((a.port == b.port) && (sixEq a.dst b.dst && (a.door == b.door))))
theorem flowEq_iff (a b : Flow) : flowEq a b = true ↔ a = b := by
  unfold flowEq
  simp only [Bool.and_eq_true, beq_iff_eq, sixEq_iff]
  constructor
  · rintro ⟨h1, h2, h3, h4, h5⟩
    cases a; cases b
    simp_all
  · rintro rfl
    exact ⟨rfl, rfl, rfl, rfl, rfl⟩
/-- A struct's fields compared, by types and places alone. -/
def eqTO (d : Nat) (xs ys : Array Value) : List (TypeId × Nat) → Sem Bool
  | [] => pure true
  | x :: r => do
    let a ← part x.1 xs x.2
    let b ← part x.1 ys x.2
    let q ← Op.equalIn d x.1 a b
    if (!q) = true then pure false else eqTO d xs ys r
theorem eqFields_TO (d : Nat) (xs ys : Array Value) (w : World) : ∀ fs : List Field, (fs.all fun f => decide (f.name ≠ "_")) = true → (Op.eqFields d xs ys fs).run Tryz.prog w = (eqTO d xs ys (fs.map fun f => (f.type, f.offset))).run Tryz.prog w
  | [], _ => rfl
  | f :: fs, h => by
    simp only [List.all_cons, Bool.and_eq_true, decide_eq_true_eq] at h
    unfold Op.eqFields
    rw [if_pos h.1]
    show _ = (eqTO d xs ys ((f.type, f.offset) :: fs.map fun f => (f.type, f.offset))).run Tryz.prog w
    unfold eqTO
    have ih := fun w => eqFields_TO d xs ys w fs h.2
    simp only [Sem.run_bind]
    refine congrArg ((part f.type xs f.offset).run Tryz.prog w).andThen (funext fun a => funext fun w1 => ?_)
    refine congrArg ((part f.type ys f.offset).run Tryz.prog w1).andThen (funext fun b => funext fun w2 => ?_)
    refine congrArg ((Op.equalIn d f.type a b).run Tryz.prog w2).andThen (funext fun q => funext fun w3 => ?_)
    cases q
    · rfl
    · exact ih w3
theorem eqTO_step {d : Nat} {xs ys : Array Value} {t : TypeId} {o : Nat} {r : List (TypeId × Nat)} {w : World} {a b : Value} {q p : Bool} (ha : (part t xs o).run Tryz.prog w = .ok a w) (hb : (part t ys o).run Tryz.prog w = .ok b w) (hq : (Op.equalIn d t a b).run Tryz.prog w = .ok q w)
    (h : (eqTO d xs ys r).run Tryz.prog w = .ok p w) : (eqTO d xs ys ((t, o) :: r)).run Tryz.prog w = .ok (q && p) w := by
  unfold eqTO
  simp only [Sem.run_bind, ha, hb, hq, Result.andThen_ok]
  cases q
  · rfl
  · exact h
set_option maxRecDepth 100000 in
theorem run_flowEq (a b : Flow) (w : World) : (Op.equalIn 10000 50 (.agg a.cells) (.agg b.cells)).run Tryz.prog w = .ok (flowEq a b) w := by
  have hI : ∀ x y : Int, (Op.equalIn 9999 3 (.int .i64 x) (.int .i64 y)).run Tryz.prog w = .ok (x == y) w := fun x y => run_equalIn_int w 9998 3 .i64 .i64 x y Tryz.underlying3
  have hS : ∀ x y : Six, (Op.equalIn 9999 23 (.agg x.cells) (.agg y.cells)).run Tryz.prog w = .ok (sixEq x y) w := fun x y => run_sixEq x y 9997 w
  have hfs : (Tryz.prog.fieldsOf 50).toList.map (fun f => (f.type, f.offset)) = [(3, 0), (23, 1), (3, 9), (23, 10), (3, 18)] := by kernel_rfl
  have p0 : ∀ f : Flow, (part 3 f.cells 0).run Tryz.prog w = .ok (.int .i64 f.kind) w := fun f => by kernel_rfl
  have p1 : ∀ f : Flow, (part 23 f.cells 1).run Tryz.prog w = .ok (.agg f.client.cells) w := fun f => by kernel_rfl
  have p2 : ∀ f : Flow, (part 3 f.cells 9).run Tryz.prog w = .ok (.int .i64 f.port) w := fun f => by kernel_rfl
  have p3 : ∀ f : Flow, (part 23 f.cells 10).run Tryz.prog w = .ok (.agg f.dst.cells) w := fun f => by kernel_rfl
  have p4 : ∀ f : Flow, (part 3 f.cells 18).run Tryz.prog w = .ok (.int .i64 f.door) w := fun f => by kernel_rfl
  rw [run_equalIn_struct w 9999 50 a.cells b.cells (by kernel_rfl) (by kernel_rfl), eqFields_TO _ _ _ _ _ (by kernel_rfl), hfs]
  have := eqTO_step (p0 a) (p0 b) (hI _ _) (eqTO_step (p1 a) (p1 b) (hS _ _) (eqTO_step (p2 a) (p2 b) (hI _ _) (eqTO_step (p3 a) (p3 b) (hS _ _) (eqTO_step (r := []) (p := true) (p4 a) (p4 b) (hI _ _) rfl))))
  rw [this]
  unfold flowEq
  rw [Bool.and_true]
set_option maxRecDepth 100000 in
theorem flow_check (e : Bool) (k : Flow) (w : World) : (Instr.checkKey e 10000 50 k.v).run Tryz.prog w = .ok () w := by kernel_rfl
/-- Flows as keys. -/
def keyF : Keys Flow where
  f := Flow.v
  t := 50
  eq := flowEq
  eq_iff := flowEq_iff
  check := flow_check
  bits k := by simp [Instr.sameBits, Flow.cells]
theorem keyF_finds : keyF.Finds := finds_asking keyF _ Tryz.underlying50 (fun _ _ => rfl) fun a b w => run_flowEq a b w
end Go.Proofs.YtbjogkpepfgegaaGreatDoor
namespace Go.Proofs.YtbjogkpepfgegaaGreatDoor
open Go.RowKit
theorem exec_load {P : Program} {o : Oper} {ρ : Operand → Value} {w : World} {ty : TypeId} {x : Operand} {p : Addr} {v : Value} (ho : o.op = .load ty x) (hx : ρ x = .pointer (some p)) (h : (Instr.loadAt ty (.pointer (some p))).run P w = .ok v w) :
    (execOp ρ o).run P w = .ok (.value v) w := by
  unfold execOp
  simp only [ho, hx, Sem.run_bind, h, Result.andThen_ok, Sem.run_pure]
end Go.Proofs.YtbjogkpepfgegaaGreatDoor
namespace Go.Proofs.YtbjogkpepfgegaaGreatDoor
open Go.RowKit
/-- A packet's addresses and numbers. -/
structure P6 where
  src : Six
  dst : Six
  hop : Int
  kind : Int
def P6.cells (p : P6) (b : Value) : Array Value := #[.int .i64 p.src.x0, .int .i64 p.src.x1, .int .i64 p.src.x2, .int .i64 p.src.x3, .int .i64 p.src.x4, .int .i64 p.src.x5, .int .i64 p.src.x6, .int .i64 p.src.x7, .int .i64 p.dst.x0, .int .i64 p.dst.x1, .int .i64 p.dst.x2, .int .i64 p.dst.x3, .int .i64 p.dst.x4, .int .i64 p.dst.x5, .int .i64 p.dst.x6, .int .i64 p.dst.x7, .int .i64 p.hop, .int .i64 p.kind, b]
abbrev P6.v (p : P6) (b : Value) : Value := .agg (p.cells b)
def b8 (n : Int) : Bool := decide (0 ≤ n) && decide (n ≤ 255)
theorem b8_yes {n : Int} (h : b8 n = true) : 0 ≤ n ∧ n ≤ 255 := by unfold b8 at h; simpa using h
theorem b8_no {n : Int} (h : b8 n = false) : n < 0 ∨ (0 ≤ n ∧ 255 < n) := by unfold b8 at h; simp at h; omega
def P6.good (p : P6) : Bool := okS p.src && okS p.dst && b8 p.hop && b8 p.kind
/-- What is wrong with a packet of n bytes. -/
def P6.fault (p : P6) (n : Nat) : Int := if p.good = true then (if n ≤ 320 then 0 else 3) else 1
theorem Tryz.sizeP6 : (Tryz.prog.info? 61).map (·.size) = some 19 := by kernel_rfl
section
variable {w : World} {g : Nat} {t : TypeId} {p : P6} {b : Value}
theorem Blk.p6 (h : Blk w g t (p.cells b)) : (Instr.loadAt 61 (.pointer (some ⟨g, 0, none⟩))).run Tryz.prog w = .ok (.agg (p.cells b)) w := by
  have := run_loadAt_mid (P := Tryz.prog) w g 0 61 (p.cells b).toList _ (fun j v hv => by
    rw [Array.getElem?_toList] at hv
    rw [h.cells, Nat.zero_add]; exact hv) Tryz.underlying61 rfl Tryz.sizeP6
  rw [Array.toArray_toList] at this
  exact this
theorem Blk.p6src (h : Blk w g t (p.cells b)) : (Instr.loadAt 23 (.pointer (some ⟨g, 0, none⟩))).run Tryz.prog w = .ok (.agg p.src.cells) w :=
  h.six 0 p.src fun j hj => by
    have h : j = 0 ∨ j = 1 ∨ j = 2 ∨ j = 3 ∨ j = 4 ∨ j = 5 ∨ j = 6 ∨ j = 7 := by omega
    rcases h with rfl | rfl | rfl | rfl | rfl | rfl | rfl | rfl <;> rfl
theorem Blk.p6dst (h : Blk w g t (p.cells b)) : (Instr.loadAt 23 (.pointer (some ⟨g, 8, none⟩))).run Tryz.prog w = .ok (.agg p.dst.cells) w :=
  h.six 8 p.dst fun j hj => by
    have h : j = 0 ∨ j = 1 ∨ j = 2 ∨ j = 3 ∨ j = 4 ∨ j = 5 ∨ j = 6 ∨ j = 7 := by omega
    rcases h with rfl | rfl | rfl | rfl | rfl | rfl | rfl | rfl <;> rfl
theorem Blk.p6nums (h : Blk w g t (p.cells b)) : w.cell? ⟨g, 16, none⟩ = some (.int .i64 p.hop) ∧ w.cell? ⟨g, 17, none⟩ = some (.int .i64 p.kind) ∧ w.cell? ⟨g, 18, none⟩ = some b := ⟨h.cells 16, h.cells 17, h.cells 18⟩
end
theorem P6.fault_bad {p : P6} {n : Nat} (h : p.good = false) : p.fault n = 1 := by unfold P6.fault; rw [h]; rfl
theorem P6.fault_full {p : P6} {n : Nat} (h : p.good = true) (hn : ¬ n ≤ 320) : p.fault n = 3 := by unfold P6.fault; rw [h, if_pos rfl, if_neg hn]
theorem P6.fault_none {p : P6} {n : Nat} (h : p.good = true) (hn : n ≤ 320) : p.fault n = 0 := by unfold P6.fault; rw [h, if_pos rfl, if_pos hn]
theorem P6.fault_zero {p : P6} {n : Nat} (h : p.fault n = 0) : p.good = true ∧ n ≤ 320 := by
  unfold P6.fault at h
  by_cases hg : p.good = true
  · rw [if_pos hg] at h
    by_cases hn : n ≤ 320
    · exact ⟨hg, hn⟩
    · rw [if_neg hn] at h; omega
  · rw [if_neg hg] at h; omega
theorem P6.good_all {p : P6} (h : p.good = true) : okS p.src = true ∧ okS p.dst = true ∧ (0 ≤ p.hop ∧ p.hop ≤ 255) ∧ (0 ≤ p.kind ∧ p.kind ≤ 255) := by
  unfold P6.good at h
  simp only [Bool.and_eq_true] at h
  exact ⟨h.1.1.1, h.1.1.2, b8_yes h.1.2, b8_yes h.2⟩

set_option maxRecDepth 100000 in
set_option maxHeartbeats 4000000 in
theorem check6p_any (p : P6) (a : Option Addr) (n c : Nat) (w : World) :
    Calls Tryz.prog 59 #[p.v (.slice a n c)] w fun e w' => e = .returned (erv (p.fault n)) ∧ Ext w w' := by
  have K0 := Blk.new w 61 (p.cells (.slice a n c))
  have E0 : Ext w (w.alloc (.cells (p.cells (.slice a n c)) 61)) := (Ext.refl w).alloc _
  have l0s := K0.p6src
  cases hs : okS p.src
  case false =>
    rw [P6.fault_bad (show p.good = false by unfold P6.good; rw [hs]; rfl)]
    have HS := Lib.hid hs
    clear hs
    go_enter Tryz.func59, Tryz.ntmps59
    go_wp2_with ((apply load_by rfl _ _ rfl _ rfl); (focus (with_reducible assumption)))
    refine (check6_no p.src _ HS.out).mono ?_
    rintro e W1 ⟨rfl, q1⟩
    unfold errv
    go_wp2_with fail
    go_ret
    exact ⟨rfl, E0.trans q1⟩
  have HS := Lib.hid hs
  cases hd : okS p.dst
  case false =>
    rw [P6.fault_bad (show p.good = false by unfold P6.good; rw [hs, hd]; rfl)]
    have HD := Lib.hid hd
    clear hs hd
    go_enter Tryz.func59, Tryz.ntmps59
    go_wp2_with ((apply load_by rfl _ _ rfl _ rfl); (focus (with_reducible assumption)))
    refine (check6_yes p.src _ HS.out).mono ?_
    rintro e W1 ⟨rfl, q1⟩
    have l1d := (K0.ext q1).p6dst
    clear l0s
    go_wp2_with ((apply load_by rfl _ _ rfl _ rfl); (focus (with_reducible assumption)))
    refine (check6_no p.dst _ HD.out).mono ?_
    rintro e W2 ⟨rfl, q2⟩
    unfold errv
    go_wp2_with fail
    go_ret
    exact ⟨rfl, (E0.trans q1).trans q2⟩
  have HD := Lib.hid hd
  cases hh : b8 p.hop
  case false =>
    rw [P6.fault_bad (show p.good = false by unfold P6.good; rw [hs, hd, hh]; rfl)]
    clear hs hd
    rcases b8_no hh with hh' | ⟨hh', hh2⟩
    all_goals
      clear hh
      go_enter Tryz.func59, Tryz.ntmps59
      go_wp2_with ((apply load_by rfl _ _ rfl _ rfl); (focus (with_reducible assumption)))
      refine (check6_yes p.src _ HS.out).mono ?_
      rintro e W1 ⟨rfl, q1⟩
      have l1d := (K0.ext q1).p6dst
      clear l0s
      go_wp2_with ((apply load_by rfl _ _ rfl _ rfl); (focus (with_reducible assumption)))
      refine (check6_yes p.dst _ HD.out).mono ?_
      rintro e W2 ⟨rfl, q2⟩
      obtain ⟨m0, m1, m2⟩ := ((K0.ext q1).ext q2).p6nums
      go_wp2_with fail
      go_ret
      exact ⟨rfl, (E0.trans q1).trans q2⟩
  obtain ⟨h0, h1⟩ := b8_yes hh
  cases hk : b8 p.kind
  case false =>
    rw [P6.fault_bad (show p.good = false by unfold P6.good; rw [hs, hd, hh, hk]; rfl)]
    clear hs hd hh
    rcases b8_no hk with hh' | ⟨hh', hh2⟩
    all_goals
      clear hk
      go_enter Tryz.func59, Tryz.ntmps59
      go_wp2_with ((apply load_by rfl _ _ rfl _ rfl); (focus (with_reducible assumption)))
      refine (check6_yes p.src _ HS.out).mono ?_
      rintro e W1 ⟨rfl, q1⟩
      have l1d := (K0.ext q1).p6dst
      clear l0s
      go_wp2_with ((apply load_by rfl _ _ rfl _ rfl); (focus (with_reducible assumption)))
      refine (check6_yes p.dst _ HD.out).mono ?_
      rintro e W2 ⟨rfl, q2⟩
      obtain ⟨m0, m1, m2⟩ := ((K0.ext q1).ext q2).p6nums
      go_wp2_with fail
      go_ret
      exact ⟨rfl, (E0.trans q1).trans q2⟩
  obtain ⟨k0, k1⟩ := b8_yes hk
  have hg : p.good = true := by unfold P6.good; rw [hs, hd, hh, hk]; rfl
  clear hs hd hh hk
  by_cases hn : n ≤ 320
  case' pos => rw [P6.fault_none hg hn]; have hn' : ¬ (320 : Int) < (n : Int) := by omega
  case' neg => rw [P6.fault_full hg hn]; have hn' : (320 : Int) < (n : Int) := by omega
  all_goals
    clear hg
    go_enter Tryz.func59, Tryz.ntmps59
    go_wp2_with ((apply load_by rfl _ _ rfl _ rfl); (focus (with_reducible assumption)))
    refine (check6_yes p.src _ HS.out).mono ?_
    rintro e W1 ⟨rfl, q1⟩
    have l1d := (K0.ext q1).p6dst
    clear l0s
    go_wp2_with ((apply load_by rfl _ _ rfl _ rfl); (focus (with_reducible assumption)))
    refine (check6_yes p.dst _ HD.out).mono ?_
    rintro e W2 ⟨rfl, q2⟩
    obtain ⟨m0, m1, m2⟩ := ((K0.ext q1).ext q2).p6nums
    go_wp2_with fail
    go_ret
    exact ⟨rfl, (E0.trans q1).trans q2⟩
end Go.Proofs.YtbjogkpepfgegaaGreatDoor
namespace Go.Proofs.YtbjogkpepfgegaaGreatDoor
open Go.RowKit
namespace Pl
/-- A packet's bytes. -/
def head6 (p : P6) (n : Int) : List Int := [96, 0, 0, 0, n / 256, n % 256, p.kind, p.hop]
def enc6 (p : P6) (b : List Int) : List Int := head6 p b.length ++ two p.src.l ++ two p.dst.l ++ b
end Pl

theorem keepAll {a b : World} {B g : Nat} {cs : Array Value} (h : Below B a b) (hg : g < B) (x : ∀ i, a.cell? ⟨g, i, none⟩ = cs[i]?) : ∀ i, b.cell? ⟨g, i, none⟩ = cs[i]? :=
  fun i => (World.cell?_of_block (h.block g hg)).trans (x i)
/-- A world in the midst of a walk is named by what is known of it. -/
theorem at_worldD {P : Program} {c : Code} {Q : Exit → Act → World → Prop} {a : Act} {W : World} (X : World → Prop) (h : X W) (k : ∀ W', X W' → c.wp P Q a W') : c.wp P Q a W := k W h
set_option maxRecDepth 100000 in
theorem encode6_bad (p : P6) (a : Option Addr) (n c : Nat) (w : World) (h : p.fault n ≠ 0) :
    Calls Tryz.prog 26 #[p.v (.slice a n c)] w fun e w' => e = .returned (.tuple #[.slice none 0 0, erv (p.fault n)]) ∧ Ext w w' := by
  have K0 := Blk.new w 61 (p.cells (.slice a n c))
  have E0 : Ext w (w.alloc (.cells (p.cells (.slice a n c)) 61)) := (Ext.refl w).alloc _
  have l0 := K0.p6
  have hc := check6p_any p a n c (w.alloc (.cells (p.cells (.slice a n c)) 61))
  rw [erv_ne h] at hc ⊢
  generalize p.fault n = q at *
  have HC := Lib.hid hc
  clear h hc
  unfold errv at *
  go_enter Tryz.func26, Tryz.ntmps26
  go_wp2_with ((apply load_by rfl _ _ rfl _ rfl); (focus (with_reducible assumption)))
  refine HC.out.mono ?_
  rintro e W1 ⟨rfl, q1⟩
  go_wp2_with fail
  go_ret2
  exact ⟨rfl, E0.trans q1⟩

set_option maxRecDepth 100000 in
set_option maxHeartbeats 4000000 in
theorem encode6_ok (p : P6) (a : Option Addr) (n c : Nat) (b : List Int) (w : World) (h : p.fault n = 0) (hr : Ints .u8 w a n b) :
    Calls Tryz.prog 26 #[p.v (.slice a n c)] w fun e w' => ∃ v, e = .returned (.tuple #[v, .nilIface]) ∧ Own w' w.heap.size v (Pl.enc6 p b) ∧ Ext w w' := by
  have K0 := Blk.new w 61 (p.cells (.slice a n c))
  have E0 : Ext w (w.alloc (.cells (p.cells (.slice a n c)) 61)) := (Ext.refl w).alloc _
  have l0 := K0.p6
  have hc := check6p_any p a n c (w.alloc (.cells (p.cells (.slice a n c)) 61))
  rw [h, erv_zero] at hc
  obtain ⟨hg, hn⟩ := P6.fault_zero h
  obtain ⟨hs, hd, ⟨h0, h1⟩, ⟨k0, k1⟩⟩ := P6.good_all hg
  have HC := Lib.hid hc
  have HS := Lib.hid hs
  have HD := Lib.hid hd
  have HR := Lib.hid hr
  clear h hc hg hs hd hr
  go_enter Tryz.func26, Tryz.ntmps26
  go_wp2_with ((apply load_by rfl _ _ rfl _ rfl); (focus (with_reducible assumption)))
  refine HC.out.mono ?_
  rintro e W1 ⟨rfl, q1⟩
  have K1 := K0.ext q1
  have E1 := E0.trans q1
  obtain ⟨m0, m1, m2⟩ := K1.p6nums
  have e1 : IntKind.u8.wrap ((n : Int) / 256) = (n : Int) / 256 := IntWalk.u8_in _ (by omega)
  have e2 : IntKind.u8.wrap (n : Int) = (n : Int) % 256 := by rw [IntKind.wrap_u8]
  have e3 : IntKind.u8.wrap p.kind = p.kind := IntWalk.u8_in _ (by omega)
  have e4 : IntKind.u8.wrap p.hop = p.hop := IntWalk.u8_in _ (by omega)
  clear K0 l0 E0 q1
  go_upto_region 6 with (fail)
  refine at_worldD (fun W => Ext w W ∧ Blk W w.heap.size 61 (p.cells (.slice a n c)) ∧ Own W (w.heap.size + 1) (.slice (some ⟨W1.heap.size, 0, none⟩) 8 8) (Pl.head6 p n) ∧ w.heap.size + 2 ≤ W.heap.size)
    ⟨E1.alloc _, K1.alloc _, Own.built W1 (w.heap.size + 1) _ (Pl.head6 p n) 8 rfl rfl (by have := K1.lt; omega) (by simp [Pl.head6]), by have := K1.lt; simp; omega⟩ ?_
  rintro W2 ⟨E2, K2, o2, hz2⟩
  clear E1 K1 m0 m1 m2 e1 e2 e3 e4
  have fP := K2.cells
  unfold P6.cells at fP
  have hl1 : (Pl.two p.src.l).length = 16 := by rw [Pl.two_length]; rfl
  have hl2 : (Pl.two p.dst.l).length = 16 := by rw [Pl.two_length]; rfl
  have HL1 := Lib.hid hl1
  have HL2 := Lib.hid hl2
  clear hl1 hl2
  go_region_held3 (fun w' => ∀ i, w'.cell? ⟨w.heap.size, i, none⟩ = (#[.int .i64 p.src.x0, .int .i64 p.src.x1, .int .i64 p.src.x2, .int .i64 p.src.x3, .int .i64 p.src.x4, .int .i64 p.src.x5, .int .i64 p.src.x6, .int .i64 p.src.x7, .int .i64 p.dst.x0, .int .i64 p.dst.x1, .int .i64 p.dst.x2, .int .i64 p.dst.x3, .int .i64 p.dst.x4, .int .i64 p.dst.x5, .int .i64 p.dst.x6, .int .i64 p.dst.x7, .int .i64 p.hop, .int .i64 p.kind, .slice a n c] : Array Value)[i]?)
    (first | assumption | exact f3 | exact f4 | exact f5 | exact f6 | go_keep)
    (first
      | (go_at_call 55; (with_reducible refine (raw6_x p.src _ HS.out).mono ?_); rintro e W3 ⟨v3, rfl, o3, q3⟩; obtain ⟨a3, n3, c3, rfl, l3, r3⟩ := o3.read; have h3 := r3.len; have K3 := Blk.ext (Blk.drew K2) q3; have f3 := K3.cells; unfold P6.cells at f3)
      | (go_at_call 55; (with_reducible refine (raw6_x p.dst _ HD.out).mono ?_); rintro e W5 ⟨v5, rfl, o5, q5⟩; obtain ⟨a5, n5, c5, rfl, l5, r5⟩ := o5.read; have h5 := r5.len; have K5 := Blk.ext K4 q5; have f5 := K5.cells; unfold P6.cells at f5)
      | (refine step_app (by rfl) (Operand.tmp 27) (Operand.tmp 30) (by rfl) (w.heap.size + 1) _ (Pl.head6 p n) (by rfl) ?_ _ _ _ (Pl.two p.src.l) (by rfl) ?_ ?_ ?_ ?_; go_must (exact Own.ext o2.drew q3); go_must (exact r3); go_must (have := HL1.out; simp [Pl.head6]; omega); go_must (have := q3.size; simp at this; omega); intro v4 W4 o4 b4; have K4 := Blk.below K3 b4 (Nat.lt_succ_self _); have f4 := K4.cells; unfold P6.cells at f4)
      | (refine step_app (by rfl) (Operand.tmp 31) (Operand.tmp 34) (by rfl) (w.heap.size + 1) _ (Pl.head6 p n ++ Pl.two p.src.l) (by rfl) ?_ _ _ _ (Pl.two p.dst.l) (by rfl) ?_ ?_ ?_ ?_; go_must (exact Own.ext o4 q5); go_must (exact r5); go_must (have := HL1.out; have := HL2.out; simp [Pl.head6]; omega); go_must (have h1 := q3.size; have h2 := b4.size; have h3 := q5.size; simp at h1; omega); intro v6 W6 o6 b6; have K6 := Blk.below K5 b6 (Nat.lt_succ_self _); have f6 := K6.cells; unfold P6.cells at f6))
  have E3 : Ext w W3 := Ext.trans E2.drew q3
  have E4 : Ext w W4 := Below.trans E3 (Below.mono b4 (Nat.le_succ _))
  have E5 : Ext w W5 := Ext.trans E4 q5
  have E6 : Ext w W6 := Below.trans E5 (Below.mono b6 (Nat.le_succ _))
  obtain ⟨m0, m1, m2⟩ := K6.p6nums
  have hz6 := K6.lt
  clear fP f3 f4 f5 f6
  go_wp2_with (at_builtin; refine Halt.out ?_)
  refine Halt.mk ?_
  refine app rfl _ _ rfl (w.heap.size + 1) v6 _ rfl o6 a n c b rfl (HR.out.ext E6) (by have := HL1.out; have := HL2.out; simp [Pl.head6]; omega) (by omega) ?_
  intro v7 W7 o7 b7
  have E7 : Ext w W7 := Below.trans E6 (Below.mono b7 (Nat.le_succ _))
  have HE7 := Lib.hid E7
  have HO7 := Lib.hid o7
  clear E7 o7 b7 m0 m1 m2
  go_wp2_with fail
  go_ret2
  refine ⟨_, rfl, ?_, HE7.out⟩
  have hb := HR.out.len
  unfold Pl.enc6
  rw [hb]
  exact HO7.out.mono (Nat.le_succ _)
end Go.Proofs.YtbjogkpepfgegaaGreatDoor
namespace Go.Proofs.YtbjogkpepfgegaaGreatDoor
theorem or_bytes : ∀ x : Fin 256, ∀ y : Fin 256, (0 ≤ bits .or .u8 (x.val : Int) (y.val : Int) ∧ bits .or .u8 (x.val : Int) (y.val : Int) ≤ 255) ∧ (bits .or .u8 (x.val : Int) (y.val : Int) = 0 ↔ (x.val = 0 ∧ y.val = 0)) := by decide +kernel
theorem or_byte {x y : Int} (hx : 0 ≤ x ∧ x ≤ 255) (hy : 0 ≤ y ∧ y ≤ 255) : (0 ≤ bits .or .u8 x y ∧ bits .or .u8 x y ≤ 255) ∧ (bits .or .u8 x y = 0 ↔ (x = 0 ∧ y = 0)) := by
  have h := or_bytes ⟨x.toNat, by omega⟩ ⟨y.toNat, by omega⟩
  simp only [Int.toNat_of_nonneg hx.1, Int.toNat_of_nonneg hy.1] at h
  refine ⟨h.1, h.2.trans ?_⟩
  omega
theorem or3 {x y z : Int} (hx : 0 ≤ x ∧ x ≤ 255) (hy : 0 ≤ y ∧ y ≤ 255) (hz : 0 ≤ z ∧ z ≤ 255) : bits .or .u8 (bits .or .u8 x y) z = 0 ↔ (x = 0 ∧ y = 0 ∧ z = 0) := by
  rw [(or_byte (or_byte hx hy).1 hz).2, (or_byte hx hy).2, and_assoc]
end Go.Proofs.YtbjogkpepfgegaaGreatDoor
namespace Go.Proofs.YtbjogkpepfgegaaGreatDoor
open Go.RowKit

theorem conv_str {w : World} {a : Option Addr} {n c : Nat} {xs : List Int} (h : Ints .u8 w a n xs) : (convert 37 9 (.slice a n c)).run Tryz.prog w = .ok (.string (strOfNums xs)) w := by
  rcases Nat.eq_zero_or_pos n with hn | hn
  · subst hn
    obtain rfl : xs = [] := List.length_eq_zero_iff.1 h.len
    cases a with
    | none => exact run_convert_bytes_nil w _ _ Tryz.underlying37 Tryz.underlying5 0 c _ Tryz.underlying9
    | some ad =>
      obtain ⟨b, off, spot⟩ := ad
      have := run_convert_bytes_string (P := Tryz.prog) w 37 9 5 (some ⟨b, off, spot⟩) 0 c Tryz.underlying37 Tryz.underlying5 Tryz.underlying9
      rw [this]
      rfl
  · obtain ⟨b, off, rfl, _, hc⟩ := h.at hn
    exact run_convert_bytes_arg w _ _ Tryz.underlying37 Tryz.underlying5 b off n c xs h.len hc _ Tryz.underlying9

theorem byte_inj {x y : Int} (hx : 0 ≤ x ∧ x ≤ 255) (hy : 0 ≤ y ∧ y ≤ 255) (h : UInt8.ofNat x.toNat = UInt8.ofNat y.toNat) : x = y := by
  have := congrArg UInt8.toNat h
  simp at this
  omega
theorem str_inj : ∀ {xs ys : List Int}, Pl.IsB xs → Pl.IsB ys → strOfNums xs = strOfNums ys → xs = ys := by
  intro xs ys hx hy h
  have h1 : (xs.map fun n => UInt8.ofNat n.toNat) = ys.map fun n => UInt8.ofNat n.toNat := by
    have := congrArg (fun s : ByteArray => s.data.toList) h
    simpa [strOfNums] using this
  clear h
  induction xs generalizing ys with
  | nil => cases ys with
    | nil => rfl
    | cons y r => simp at h1
  | cons x r ih => cases ys with
    | nil => simp at h1
    | cons y s =>
      simp only [List.map_cons, List.cons.injEq] at h1
      rw [byte_inj (hx x (List.mem_cons_self ..)) (hy y (List.mem_cons_self ..)) h1.1, ih (fun z hz => hx z (List.mem_cons_of_mem _ hz)) (fun z hz => hy z (List.mem_cons_of_mem _ hz)) h1.2]
theorem str_ne {xs ys : List Int} (hx : Pl.IsB xs) (hy : Pl.IsB ys) (h : xs ≠ ys) : ((strOfNums xs).toList == (strOfNums ys).toList) = false := by
  rw [beq_eq_false_iff_ne, ByteArray.toList_eq, ByteArray.toList_eq]
  intro e
  refine h (str_inj hx hy ?_)
  have h2 : (strOfNums xs).data = (strOfNums ys).data := Array.ext' e
  generalize strOfNums xs = s at h2 ⊢
  generalize strOfNums ys = t at h2 ⊢
  cases s; cases t; cases h2; rfl

/-- bytes.Equal. -/
theorem equal_yes (a b : Option Addr) (n c m d : Nat) (xs : List Int) (w : World) (h1 : Ints .u8 w a n xs) (h2 : Ints .u8 w b m xs) :
    Calls Tryz.prog 77 #[.slice a n c, .slice b m d] w fun e w' => e = .returned (.bool true) ∧ w = w' := by
  have k1 := conv_str (c := c) h1
  have k2 := conv_str (c := d) h2
  generalize strOfNums xs = s at k1 k2
  clear h1 h2
  go_enter Tryz.func77, Tryz.ntmps77
  go_wp2
  go_ret
  exact ⟨rfl, rfl⟩
theorem equal_no (a b : Option Addr) (n c m d : Nat) (xs ys : List Int) (w : World) (h1 : Ints .u8 w a n xs) (h2 : Ints .u8 w b m ys) (hx : Pl.IsB xs) (hy : Pl.IsB ys) (hne : xs ≠ ys) :
    Calls Tryz.prog 77 #[.slice a n c, .slice b m d] w fun e w' => e = .returned (.bool false) ∧ w = w' := by
  have k1 := conv_str (c := c) h1
  have k2 := conv_str (c := d) h2
  have hs := str_ne hx hy hne
  generalize strOfNums xs = s at k1 hs
  generalize strOfNums ys = t at k2 hs
  clear h1 h2 hne
  go_enter Tryz.func77, Tryz.ntmps77
  go_wp2
  go_ret
  exact ⟨rfl, rfl⟩

/-- bytes.Clone. -/
theorem clone_any (a : Option Addr) (n c : Nat) (xs : List Int) (w : World) (h : Ints .u8 w a n xs) (hc : a = none → c = 0) (hn : n ≤ 1099511627776) :
    Calls Tryz.prog 61 #[.slice a n c] w fun e w' => ∃ v, e = .returned v ∧ Own w' w.heap.size v xs ∧ Below w.heap.size w w' := by
  cases a with
  | none =>
    obtain rfl : n = 0 := by
      rcases h.2 with h0 | ⟨b, off, h0, _⟩
      · exact h0
      · cases h0
    obtain rfl := hc rfl
    obtain rfl : xs = [] := List.length_eq_zero_iff.1 h.len
    clear h hc
    have q : ∀ (w : World) (a : Option Addr) (n c n' c' : Nat), (binOp .eql 37 (.slice a n c) (.slice none n' c')).run Tryz.prog w = .ok (.bool a.isNone) w := fun w a n c n' c' => Lib.run_eql_slice_nil w _ _ a n c n' c' Tryz.underlying37
    go_enter Tryz.func61, Tryz.ntmps61
    go_wp2
    go_ret
    exact ⟨_, rfl, Own.nil _ _, Below.refl _ _⟩
  | some ad =>
    clear hc
    have H := Lib.hid h
    clear h
    have q : ∀ (w : World) (a : Option Addr) (n c n' c' : Nat), (binOp .eql 37 (.slice a n c) (.slice none n' c')).run Tryz.prog w = .ok (.bool a.isNone) w := fun w a n c n' c' => Lib.run_eql_slice_nil w _ _ a n c n' c' Tryz.underlying37
    go_enter Tryz.func61, Tryz.ntmps61
    go_wp2_with (at_builtin; refine Halt.out ?_)
    refine Halt.mk ?_
    have hb : Below w.heap.size w (w.alloc (.cells #[] 5)) := by go_grown
    refine app rfl _ _ rfl w.heap.size _ [] rfl (Own.built w _ #[] [] 0 rfl rfl (Nat.le_refl _) (by simp)) (some ad) n c xs rfl (H.out.below hb) (by simp; omega) (by simp) ?_
    intro v W ho hb2
    go_wp2
    go_ret
    exact ⟨v, rfl, by simpa using ho, hb.trans hb2⟩
end Go.Proofs.YtbjogkpepfgegaaGreatDoor
namespace Go.Proofs.YtbjogkpepfgegaaGreatDoor
open Go.RowKit
theorem Tryz.elemBytesT : Tryz.prog.elem 37 = 5 := by kernel_rfl
theorem Tryz.sizeByteT : ∀ w : World, (sizeOf 5).run Tryz.prog w = .ok 1 w := fun w => by kernel_rfl
/-- x[k:]. -/
theorem slice_tail (a : Option Addr) (n c k : Nat) (i : Int) (hi : i = k) (hk : k ≤ n) (hnc : n ≤ c) (hn : a = none → c = 0) :
    ∃ AA : Option Addr, (∀ (w : World) (xs : List Int), Ints .u8 w a n xs → Ints .u8 w AA (n - k) (xs.drop k)) ∧ (AA = none → c - k = 0) ∧
      ∀ W : World, (Instr.slice 37 (.slice a n c) (some (.int .i64 i)) none none).run Tryz.prog W = .ok (.slice AA (n - k) (c - k)) W := by
  subst hi
  refine ⟨if c = k then a else a.map (·.add (k * 1)), fun w xs h => ?_, fun h => ?_, fun W => ?_⟩
  · by_cases hz : n - k = 0
    · exact ⟨by rw [List.length_drop, h.1], .inl hz⟩
    · obtain ⟨b, off, rfl, _, _⟩ := h.at (by omega)
      rw [Option.map_some, Addr.add_lit, Nat.mul_one]
      exact h.dropped k c hk hnc
  · cases a with
    | none => have := hn rfl; omega
    | some p =>
      by_cases hc : c = k
      · rw [if_pos hc] at h; cases h
      · rw [if_neg hc] at h; cases h
  · rw [run_slice_l W 37 a n c (by rw [Tryz.elemBytesT]; exact Tryz.underlying37) .i64 (k : Int) (by omega) (by omega), Tryz.elemBytesT, Tryz.sizeByteT]
    simp only [Result.andThen_ok, sliced, Int.toNat_natCast]
/-- x[:k]. -/
theorem slice_head (b off n c k : Nat) (i : Int) (hi : i = k) (hk : k ≤ c) :
    ∀ W : World, (Instr.slice 37 (.slice (some ⟨b, off, none⟩) n c) none (some (.int .i64 i)) none).run Tryz.prog W = .ok (.slice (some ⟨b, off, none⟩) k c) W := by
  subst hi
  intro W
  rw [run_slice_h W 37 (some ⟨b, off, none⟩) n c (by rw [Tryz.elemBytesT]; exact Tryz.underlying37) .i64 (k : Int) (by omega) (by omega), Tryz.elemBytesT, Tryz.sizeByteT]
  simp only [Result.andThen_ok, sliced, Int.toNat_natCast, Nat.sub_zero, Nat.zero_mul, Option.map_some, Addr.add_lit, Nat.add_zero]
  by_cases hc : c = 0
  · rw [if_pos hc]
  · rw [if_neg hc]
theorem Ints.front {k : IntKind} {w : World} {a : Option Addr} {n : Nat} {xs : List Int} (h : Ints k w a n xs) (m : Nat) (hm : m ≤ n) : Ints k w a m (xs.take m) := by
  refine ⟨by rw [List.length_take, h.1]; omega, ?_⟩
  rcases h.2 with h0 | ⟨b, off, rfl, hc⟩
  · exact .inl (by omega)
  · refine .inr ⟨b, off, rfl, fun i hi => ?_⟩
    rw [hc i (by omega)]
    simp [List.getD, hi]
end Go.Proofs.YtbjogkpepfgegaaGreatDoor
