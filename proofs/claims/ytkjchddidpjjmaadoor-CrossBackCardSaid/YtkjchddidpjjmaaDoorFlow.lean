/- The contract of bind.Check: is a flow one? Conditions: as each theorem states them. -/
import Derived.Test.YtkjchddidpjjmaaDoorSix
namespace Go.Proofs.YtkjchddidpjjmaaDoor
open Go.RowKit

/-- Who talks to whom. -/
structure Flow where
  kind : Int
  client : Six
  port : Int
  dst : Six
  door : Int
def Flow.cells (f : Flow) : Array Value := #[.int .i64 f.kind, .int .i64 f.client.x0, .int .i64 f.client.x1, .int .i64 f.client.x2, .int .i64 f.client.x3, .int .i64 f.client.x4, .int .i64 f.client.x5, .int .i64 f.client.x6, .int .i64 f.client.x7, .int .i64 f.port, .int .i64 f.dst.x0, .int .i64 f.dst.x1, .int .i64 f.dst.x2, .int .i64 f.dst.x3, .int .i64 f.dst.x4, .int .i64 f.dst.x5, .int .i64 f.dst.x6, .int .i64 f.dst.x7, .int .i64 f.door]
abbrev Flow.v (f : Flow) : Value := .agg f.cells
def Flow.Ok (f : Flow) : Prop := (f.kind = 6 ∨ f.kind = 17) ∧ f.client.Ok ∧ f.dst.Ok ∧ (0 ≤ f.port ∧ f.port ≤ 65535) ∧ (0 ≤ f.door ∧ f.door ≤ 65535)

section
variable {w : World} {g : Nat} {t : TypeId} {f : Flow}
theorem Blk.fclient (h : Blk w g t f.cells) : (Instr.loadAt 23 (.pointer (some ⟨g, 1, none⟩))).run Tryd.prog w = .ok (.agg f.client.cells) w :=
  h.six 1 f.client fun j hj => by
    have h : j = 0 ∨ j = 1 ∨ j = 2 ∨ j = 3 ∨ j = 4 ∨ j = 5 ∨ j = 6 ∨ j = 7 := by omega
    rcases h with rfl | rfl | rfl | rfl | rfl | rfl | rfl | rfl <;> rfl
theorem Blk.fdst (h : Blk w g t f.cells) : (Instr.loadAt 23 (.pointer (some ⟨g, 10, none⟩))).run Tryd.prog w = .ok (.agg f.dst.cells) w :=
  h.six 10 f.dst fun j hj => by
    have h : j = 0 ∨ j = 1 ∨ j = 2 ∨ j = 3 ∨ j = 4 ∨ j = 5 ∨ j = 6 ∨ j = 7 := by omega
    rcases h with rfl | rfl | rfl | rfl | rfl | rfl | rfl | rfl <;> rfl
theorem Blk.fnums (h : Blk w g t f.cells) : w.cell? ⟨g, 0, none⟩ = some (.int .i64 f.kind) ∧ w.cell? ⟨g, 9, none⟩ = some (.int .i64 f.port) ∧ w.cell? ⟨g, 18, none⟩ = some (.int .i64 f.door) := ⟨h.cells 0, h.cells 9, h.cells 18⟩
theorem Blk.ints_client (h : Blk w g t f.cells) : Ints .i64 w (some ⟨g, 1, none⟩) 8 f.client.l :=
  h.ints rfl fun i hi => by
    have h : i = 0 ∨ i = 1 ∨ i = 2 ∨ i = 3 ∨ i = 4 ∨ i = 5 ∨ i = 6 ∨ i = 7 := by omega
    rcases h with rfl | rfl | rfl | rfl | rfl | rfl | rfl | rfl <;> rfl
theorem Blk.ints_dst (h : Blk w g t f.cells) : Ints .i64 w (some ⟨g, 10, none⟩) 8 f.dst.l :=
  h.ints rfl fun i hi => by
    have h : i = 0 ∨ i = 1 ∨ i = 2 ∨ i = 3 ∨ i = 4 ∨ i = 5 ∨ i = 6 ∨ i = 7 := by omega
    rcases h with rfl | rfl | rfl | rfl | rfl | rfl | rfl | rfl <;> rfl
end

theorem check6_ok (s : Six) (w : World) (h : s.Ok) : Calls Tryd.prog 48 #[s.v] w fun e w' => e = .returned .nilIface ∧ Ext w w' :=
  (check6_any s w).mono fun _ _ ⟨he, hx⟩ => ⟨by rw [he, wordsErr_yes h], hx⟩
theorem Six.bad {s : Six} (h : ¬ s.Ok) : words s.l = false := by
  unfold Six.Ok at h
  simpa using h
theorem check6_bad (s : Six) (w : World) (h : ¬ s.Ok) : Calls Tryd.prog 48 #[s.v] w fun e w' => e = .returned (errv 1) ∧ Ext w w' :=
  (check6_any s w).mono fun _ _ ⟨he, hx⟩ => ⟨by rw [he, wordsErr_no (Six.bad h)], hx⟩

end Go.Proofs.YtkjchddidpjjmaaDoor
