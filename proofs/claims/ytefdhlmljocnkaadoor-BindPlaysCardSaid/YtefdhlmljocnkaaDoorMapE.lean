/- Maps set in two phases: the entry, then its value. Conditions: as each lemma states them. -/
import Derived.Test.YtefdhlmljocnkaaDoorMapG
namespace Go.Proofs.YtefdhlmljocnkaaDoor
open Go.RowKit
section
variable {κ : Type} {K : Keys κ} {w : World} {g : Nat} {l : List (Ent κ)} {clock : Nat}
/-- The entry of a new key. -/
theorem MapIs.entry (h : MapIs K w g l clock) (hF : K.Finds) (mt e : TypeId) (hm : Tryd.prog.underlying mt = some (.map K.t e)) (z : Value) (hz : (zeroValue e).run Tryd.prog w = .ok z w) (k : κ) (hk : K.look k l 0 = none) :
    (Instr.mapEntry mt (.map (some g)) (K.f k)).run Tryd.prog w = .ok (.tuple #[z, goInt clock]) (putMap K w g (l ++ [⟨k, z, clock⟩]) (clock + 1)) := by
  have hf := hF k l w
  rw [hk] at hf
  have hc := K.check false k w
  unfold Instr.mapEntry
  simp only [Sem.run_bind, run_underlying hm, Result.andThen_ok, MapKept.run_getObj_map h.here, hc, hf, hz, MapKept.run_setObj_map _ h.here]
  unfold putMap
  simp [Keys.ent]
theorem find_last {x : Ent κ} : ∀ (l : List (Ent κ)), (∀ y ∈ l, y.born < x.born) → ((l ++ [x]).map K.ent).toArray.findIdx? (fun e => (e.born : Int) == (x.born : Int)) = some l.length := by
  intro l hl
  rw [List.findIdx?_toArray, List.map_append, List.findIdx?_append, List.findIdx?_eq_none_iff.2]
  · simp [Keys.ent]
  · intro y hy
    obtain ⟨y', hy', rfl⟩ := List.mem_map.1 hy
    have := hl y' hy'
    simp only [Keys.ent, beq_eq_false_iff_ne, ne_eq]
    omega
/-- The value of the last entry. -/
theorem MapIs.fill {k : κ} {z : Value} (h : MapIs K w g (l ++ [⟨k, z, clock⟩]) (clock + 1)) (ho : ∀ y ∈ l, y.born < clock) (mt : TypeId) (v : Value) :
    (Instr.entryStore mt (.map (some g)) (goInt clock) v).run Tryd.prog w = .ok () (putMap K w g (l ++ [⟨k, v, clock⟩]) (clock + 1)) := by
  have hf := find_last (K := K) (x := ⟨k, z, clock⟩) l ho
  unfold Instr.entryStore
  simp only [Sem.run_bind, Result.andThen_ok, MapKept.run_getObj_map h.here, goInt, asInt, asIntOf, Sem.run_pure]
  dsimp only at hf
  have hA : (((l ++ [(⟨k, z, clock⟩ : Ent κ)]).map K.ent).toArray.modify l.length fun e => { e with val := v }) = ((l ++ [(⟨k, v, clock⟩ : Ent κ)]).map K.ent).toArray := by
    refine Array.ext_getElem? fun j => ?_
    rw [Array.getElem?_modify, List.getElem?_toArray, List.getElem?_toArray, List.map_append, List.map_append]
    rcases Nat.lt_trichotomy j l.length with hj | hj | hj
    · rw [if_neg (by omega), List.getElem?_append_left (by simpa using hj), List.getElem?_append_left (by simpa using hj)]
    · subst hj
      simp [Keys.ent]
    · rw [if_neg (by omega), List.getElem?_eq_none (by simp; omega), List.getElem?_eq_none (by simp; omega)]
  simp only [hf, MapKept.run_setObj_map _ h.here, hA]
  rfl
end
end Go.Proofs.YtefdhlmljocnkaaDoor
