/- Maps that the call itself has made, by their entries: lookup, update, delete at any kind of key. Conditions: as each lemma states them. -/
import Derived.Test.YtefdhlmljocnkaaDoorFlow
import Derived.Test.YtefdhlmljocnkaaDoorSixEq
import Derived.Maps.RangeWalk
import Derived.Maps.Own
namespace Go.Proofs.YtefdhlmljocnkaaDoor
open Go.RowKit
/-- An entry: its key, value, stamp. -/
structure Ent (κ : Type) where
  key : κ
  val : Value
  born : Nat
/-- A kind of keys: how they lie, and that the model tells them apart. -/
structure Keys (κ : Type) where
  f : κ → Value
  t : TypeId
  eq : κ → κ → Bool
  eq_iff : ∀ a b, eq a b = true ↔ a = b
  check : ∀ (e : Bool) (k : κ) (w : World), (Instr.checkKey e 10000 t (f k)).run Tryd.prog w = .ok () w
  bits : ∀ k, Instr.sameBits 10000 (f k) (f k) = true
namespace Keys
variable {κ : Type} (K : Keys κ)
def ent (x : Ent κ) : MapEntry := ⟨K.f x.key, x.val, x.born⟩
/-- Where a key is, and what it has. -/
def look {κ : Type} (K : Keys κ) (k : κ) : List (Ent κ) → Nat → Option (Nat × Value)
  | [], _ => none
  | x :: r, i => if K.eq k x.key = true then some (i, x.val) else look K k r (i + 1)
/-- The model finds a key so. -/
def Finds : Prop := ∀ (k : κ) (l : List (Ent κ)) (w : World), (Instr.findKey K.t (K.f k) (l.map K.ent)).run Tryd.prog w = .ok (K.look k l 0) w
end Keys
theorem finds_now {κ : Type} (K : Keys κ) (d : TypeDesc) (hd : Tryd.prog.underlying K.t = some d) (h : ∀ a b, Instr.sameNow d (K.f a) (K.f b) = some (K.eq a b)) : K.Finds := by
  intro k l w
  have key : ∀ (l : List (Ent κ)) (i : Nat), Instr.findNow d (K.f k) (l.map K.ent) i = some (K.look k l i) := by
    intro l
    induction l with
    | nil => intro i; rfl
    | cons x r ih =>
      intro i
      show (match Instr.sameNow d (K.f k) (K.f x.key) with | some true => _ | some false => _ | none => none) = _
      rw [h]
      unfold Keys.look
      cases hq : K.eq k x.key
      · exact ih (i + 1)
      · rfl
  unfold Instr.findKey
  simp only [Sem.run_bind, run_underlying hd, Result.andThen_ok, key, Sem.run_pure]
theorem finds_asking {κ : Type} (K : Keys κ) (d : TypeDesc) (hd : Tryd.prog.underlying K.t = some d) (hn : ∀ a b, Instr.sameNow d (K.f a) (K.f b) = none) (h : ∀ a b (w : World), (Op.equal K.t (K.f a) (K.f b)).run Tryd.prog w = .ok (K.eq a b) w) : K.Finds := by
  intro k l w
  have key : ∀ (l : List (Ent κ)) (i : Nat), (Instr.findAsking K.t (K.f k) (l.map K.ent) i).run Tryd.prog w = .ok (K.look k l i) w := by
    intro l
    induction l with
    | nil => intro i; rfl
    | cons x r ih =>
      intro i
      have e1 : (Op.equal K.t (K.f k) (K.ent x).key).run Tryd.prog w = .ok (K.eq k x.key) w := h k x.key w
      simp only [List.map_cons, Instr.findAsking, Sem.run_bind, e1, Result.andThen_ok]
      unfold Keys.look
      cases hq : K.eq k x.key
      · exact ih (i + 1)
      · rfl
  unfold Instr.findKey
  cases l with
  | nil => simp only [Sem.run_bind, run_underlying hd, Result.andThen_ok]; rfl
  | cons x r =>
    have e2 : Instr.findNow d (K.f k) ((x :: r).map K.ent) 0 = none := by
      show (match Instr.sameNow d (K.f k) (K.f x.key) with | some true => _ | some false => _ | none => none) = _
      rw [hn]
    simp only [Sem.run_bind, run_underlying hd, Result.andThen_ok, e2]
    exact key (x :: r) 0
/-- A map in memory. -/
structure MapIs {κ : Type} (K : Keys κ) (w : World) (g : Nat) (l : List (Ent κ)) (clock : Nat) : Prop where
  here : w.heap[g]? = some (.map (l.map K.ent).toArray clock)
  old : ∀ x ∈ l, x.born < clock
section
variable {κ : Type} {K : Keys κ} {w : World} {g : Nat} {l : List (Ent κ)} {clock : Nat}
theorem MapIs.lt (h : MapIs K w g l clock) : g < w.heap.size := (Array.getElem?_eq_some_iff.1 h.here).1
theorem MapIs.ext {w' : World} (h : MapIs K w g l clock) (k : Ext w w') : MapIs K w' g l clock := ⟨(Below.block k g h.lt).trans h.here, h.old⟩
theorem MapIs.set {q : Addr} (h : MapIs K w g l clock) (u : Value) (hq : g ≠ q.block) : MapIs K (w.setCell q u) g l clock := ⟨(Below.heap_setCell w q u g hq).trans h.here, h.old⟩
theorem MapIs.only {w' : World} {r : Option Nat} (h : MapIs K w g l clock) (k : w.grownBy w' r) (hr : some g ≠ r) : MapIs K w' g l clock := ⟨(k.block g h.lt hr).trans h.here, h.old⟩
theorem MapIs.drewN (h : MapIs K w g l clock) (n : Nat) : MapIs K (w.drewN n) g l clock := ⟨h.here, h.old⟩
/-- m[k], with ok. -/
theorem MapIs.lookup (h : MapIs K w g l clock) (hF : K.Finds) (mt e : TypeId) (hm : Tryd.prog.underlying mt = some (.map K.t e)) (z : Value) (hz : (zeroValue e).run Tryd.prog w = .ok z w) (k : κ) (ok : Bool) :
    (Instr.lookup mt (.map (some g)) (K.f k) ok).run Tryd.prog w = .ok (match K.look k l 0 with | some (_, v) => if ok then .tuple #[v, .bool true] else v | none => if ok then .tuple #[z, .bool false] else z) w := by
  have hf := hF k l w
  have hc := K.check (l.map K.ent).toArray.isEmpty k w
  unfold Instr.lookup
  simp only [Sem.run_bind, run_underlying hm, Result.andThen_ok, MapKept.run_getObj_map h.here, Sem.run_pure, hc, hf]
  cases K.look k l 0 with
  | none => simp only [Sem.run_bind, hz, Result.andThen_ok, Sem.run_pure]
  | some x => cases ok <;> rfl
/-- A map written anew. -/
def putMap {κ : Type} (K : Keys κ) (w : World) (g : Nat) (l : List (Ent κ)) (clock : Nat) : World := { w with heap := w.heap.setIfInBounds g (.map (l.map K.ent).toArray clock) }
theorem putMap_other (K : Keys κ) (w : World) (g : Nat) (l : List (Ent κ)) (clock : Nat) {i : Nat} (hi : i ≠ g) : (putMap K w g l clock).heap[i]? = w.heap[i]? := by
  show (w.heap.setIfInBounds g _)[i]? = _
  rw [Array.getElem?_setIfInBounds_ne (fun e => hi e.symm)]
theorem putMap_size (K : Keys κ) (w : World) (g : Nat) (l : List (Ent κ)) (clock : Nat) : (putMap K w g l clock).heap.size = w.heap.size := by
  show (w.heap.setIfInBounds g _).size = _
  simp
theorem MapIs.put (h : MapIs K w g l clock) (l' : List (Ent κ)) (c' : Nat) (ho : ∀ x ∈ l', x.born < c') : MapIs K (putMap K w g l' c') g l' c' := by
  refine ⟨?_, ho⟩
  show (w.heap.setIfInBounds g _)[g]? = _
  rw [Array.getElem?_setIfInBounds_self, if_pos h.lt]
theorem putMap_grown (K : Keys κ) (w : World) (g : Nat) (l : List (Ent κ)) (clock : Nat) : w.grownBy (putMap K w g l clock) (some g) :=
  ⟨rfl, rfl, rfl, Nat.le_of_eq (putMap_size K w g l clock).symm, fun i _ hne => putMap_other K w g l clock (fun e => hne (by rw [e]))⟩
/-- m[k] = v at a new key. -/
theorem MapIs.insert (h : MapIs K w g l clock) (hF : K.Finds) (mt e : TypeId) (hm : Tryd.prog.underlying mt = some (.map K.t e)) (k : κ) (v : Value) (hk : K.look k l 0 = none) :
    (Instr.mapUpdate mt (.map (some g)) (K.f k) v).run Tryd.prog w = .ok () (putMap K w g (l ++ [⟨k, v, clock⟩]) (clock + 1)) := by
  have hf := hF k l w
  rw [hk] at hf
  have hc := K.check false k w
  unfold Instr.mapUpdate
  simp only [Sem.run_bind, run_underlying hm, Result.andThen_ok, MapKept.run_getObj_map h.here, hc, hf, MapKept.run_setObj_map _ h.here]
  unfold putMap
  simp [Keys.ent]
/-- The entry at a place with another value. -/
def setVal (l : List (Ent κ)) (i : Nat) (v : Value) : List (Ent κ) := l.modify i fun x => { x with val := v }
theorem look_at {k : κ} {v : Value} {i : Nat} : ∀ {l : List (Ent κ)} {o : Nat}, K.look k l o = some (i, v) → ∃ x, o ≤ i ∧ l[i - o]? = some x ∧ x.key = k ∧ x.val = v
  | [], o, h => by cases h
  | x :: r, o, h => by
    unfold Keys.look at h
    split at h
    · rename_i hq
      cases h
      exact ⟨x, Nat.le_refl _, by rw [Nat.sub_self]; rfl, ((K.eq_iff k x.key).1 hq).symm, rfl⟩
    · obtain ⟨y, h0, h1, h2, h3⟩ := look_at (l := r) (o := o + 1) h
      refine ⟨y, by omega, ?_, h2, h3⟩
      rw [show i - o = (i - (o + 1)) + 1 by omega]
      exact h1
theorem look_none {k : κ} : ∀ {l : List (Ent κ)} {o : Nat}, K.look k l o = none → ∀ x ∈ l, x.key ≠ k
  | [], _, _, x, hx => by cases hx
  | y :: r, o, h, x, hx => by
    unfold Keys.look at h
    split at h
    · cases h
    · rename_i hq
      rcases List.mem_cons.1 hx with rfl | hx
      · exact fun he => hq ((K.eq_iff k x.key).2 he.symm)
      · exact look_none (l := r) h x hx
theorem look_of {k : κ} : ∀ {l : List (Ent κ)} {o : Nat}, (∀ x ∈ l, x.key ≠ k) → K.look k l o = none
  | [], _, _ => rfl
  | y :: r, o, h => by
    unfold Keys.look
    rw [if_neg (fun hq => h y (List.mem_cons_self ..) ((K.eq_iff k y.key).1 hq).symm)]
    exact look_of fun x hx => h x (List.mem_cons_of_mem _ hx)
theorem look_here {x : Ent κ} : ∀ {l : List (Ent κ)} {o i : Nat}, (l.map (·.key)).Nodup → l[i]? = some x → K.look x.key l o = some (o + i, x.val)
  | [], _, _, _, h => by cases h
  | y :: r, o, i, hn, h => by
    rw [List.map_cons, List.nodup_cons] at hn
    unfold Keys.look
    cases i with
    | zero =>
      obtain rfl : y = x := Option.some.inj h
      rw [if_pos ((K.eq_iff y.key y.key).2 rfl)]
      rfl
    | succ i =>
      have h' : r[i]? = some x := h
      rw [if_neg (fun hq => hn.1 (by rw [← (K.eq_iff x.key y.key).1 hq]; exact List.mem_map_of_mem (List.mem_of_getElem? h'))), look_here hn.2 h']
      congr 2
      omega
/-- m[k] = v at a key that is there. -/
theorem MapIs.update (h : MapIs K w g l clock) (hF : K.Finds) (mt e : TypeId) (hm : Tryd.prog.underlying mt = some (.map K.t e)) (k : κ) (v u : Value) (i : Nat) (hk : K.look k l 0 = some (i, u)) :
    (Instr.mapUpdate mt (.map (some g)) (K.f k) v).run Tryd.prog w = .ok () (putMap K w g (setVal l i v) clock) := by
  have hf := hF k l w
  rw [hk] at hf
  have hc := K.check false k w
  obtain ⟨x, _, hx, hxk, _⟩ := look_at hk
  rw [Nat.sub_zero] at hx
  have hkey : (((l.map K.ent).toArray[i]?).map (·.key)).getD (K.f k) = K.f k := by
    rw [List.getElem?_toArray, List.getElem?_map, hx]
    show K.f x.key = K.f k
    rw [hxk]
  have hst : (Instr.keyThatStays (K.f k) (K.f k)).run Tryd.prog w = .ok (K.f k) w := by
    unfold Instr.keyThatStays
    rw [if_pos (K.bits k)]
    rfl
  have hA : ((l.map K.ent).toArray.modify i fun y => { y with key := K.f k, val := v }) = ((setVal l i v).map K.ent).toArray := by
    refine Array.ext_getElem? fun j => ?_
    rw [Array.getElem?_modify, List.getElem?_toArray, List.getElem?_toArray, List.getElem?_map, List.getElem?_map]
    unfold setVal
    rw [List.getElem?_modify]
    by_cases hj : i = j
    · subst hj
      rw [if_pos rfl, hx]
      simp [Keys.ent, hxk]
    · rw [if_neg hj]
      simp [hj]
  unfold Instr.mapUpdate
  simp only [Sem.run_bind, run_underlying hm, Result.andThen_ok, MapKept.run_getObj_map h.here, hc, hf, hkey, hst, MapKept.run_setObj_map _ h.here, hA]
  exact rfl
/-- delete at a key that is there. -/
theorem MapIs.delete (h : MapIs K w g l clock) (hF : K.Finds) (mt e ty : TypeId) (hm : Tryd.prog.underlying mt = some (.map K.t e)) (k : κ) (u : Value) (i : Nat) (hk : K.look k l 0 = some (i, u)) :
    (Builtin.delete_ #[mt, K.t] ty #[.map (some g), K.f k]).run Tryd.prog w = .ok (.tuple #[]) (putMap K w g (l.eraseIdx i) clock) := by
  have hf := hF k l w
  rw [hk] at hf
  have hc := fun b => K.check b k w
  simp [Builtin.delete_, run_underlying hm, MapKept.run_getObj_map h.here, hc, hf, MapKept.run_setObj_map _ h.here, Result.andThen, putMap]
  rw [ChangeMaps.map_eraseIdx]
end
/-- Numbers as keys. -/
def keyI : Keys Int where
  f := Value.int .i64
  t := 3
  eq a b := a == b
  eq_iff a b := by simp
  check e k w := by kernel_rfl
  bits k := by simp [Instr.sameBits]
theorem keyI_finds : keyI.Finds := finds_now keyI _ Tryd.underlying3 fun a b => by simp [Instr.sameNow, keyI]
end Go.Proofs.YtefdhlmljocnkaaDoor
