/- Lemmas of this seat, bound together: Mem Six Flow PickPl Addr. Conditions: as each lemma states them. -/
import Derived.Test.YtbjogkpepfgegaaGreatDoorK00
import Derived.Laws.Rows
import Derived.Deep.Draws
import Derived.Deep.MidRow
import Derived.Handy
import Derived.StillTailTactics
import Derived.KernelRfl
namespace Go.Proofs.YtbjogkpepfgegaaGreatDoor
open Go.RowKit

/-- All that was there is as it was. -/
def Ext (w w' : World) : Prop := Below w.heap.size w w'
theorem Ext.refl (w : World) : Ext w w := Below.refl _ _
theorem Ext.trans {a b c : World} (h : Ext a b) (k : Ext b c) : Ext a c := Below.trans h (Below.mono k h.size)
theorem Ext.low {B : Nat} {a b c : World} (h : Below B a b) (hB : B ≤ b.heap.size) (k : Ext b c) : Below B a c := h.trans (Below.mono k hB)
theorem Ext.size {a b : World} (h : Ext a b) : a.heap.size ≤ b.heap.size := Below.size h

theorem Ext.alloc {a b : World} (h : Ext a b) (o : Obj) : Ext a (b.alloc o) := Below.alloc h h.size o
theorem Ext.drew {a b : World} (h : Ext a b) : Ext a b.drew := Below.drew h
theorem Ext.drewN {a b : World} (h : Ext a b) (n : Nat) : Ext a (b.drewN n) := ⟨h.os, h.tape, h.output, h.size, h.block⟩
theorem Ext.set {a b : World} (h : Ext a b) {p : Addr} (hp : a.heap.size ≤ p.block) (u : Value) : Ext a (b.setCell p u) := Below.setCell h hp u
/-- Block g is just these cells. -/
def Blk (w : World) (g : Nat) (t : TypeId) (cs : Array Value) : Prop := w.heap[g]? = some (.cells cs t)
section
variable {w w' : World} {g : Nat} {t : TypeId} {cs : Array Value}
theorem Blk.lt (h : Blk w g t cs) : g < w.heap.size := (Array.getElem?_eq_some_iff.1 h).1
theorem Blk.cells (h : Blk w g t cs) : ∀ i, w.cell? ⟨g, i, none⟩ = cs[i]? := fun i => cell_of_row w g i cs t (0, 0) h
theorem Blk.free (h : Blk w g t cs) : ∀ i, w.frozen? ⟨g, i, none⟩ = false := fun i => frozen_of_row w g i cs t h
theorem Blk.new (w : World) (t : TypeId) (cs : Array Value) : Blk (w.alloc (.cells cs t)) w.heap.size t cs := heap_alloc_new w _
theorem Blk.at {n : Nat} (w : World) (t : TypeId) (cs : Array Value) (h : w.heap.size = n) : Blk (w.alloc (.cells cs t)) n t cs := by subst h; exact Blk.new w t cs
theorem Blk.ints (h : Blk w g t cs) {k : IntKind} {off n : Nat} {xs : List Int} (hn : xs.length = n) (hc : ∀ i, i < n → cs[off + i]? = some (.int k (xs.getD i 0))) : Ints k w (some ⟨g, off, none⟩) n xs :=
  ⟨hn, .inr ⟨g, off, rfl, fun i hi => (h.cells (off + i)).trans (hc i hi)⟩⟩
theorem Blk.alloc (h : Blk w g t cs) (o : Obj) : Blk (w.alloc o) g t cs := (Below.heap_alloc w o g h.lt).trans h
theorem Blk.drew (h : Blk w g t cs) : Blk w.drew g t cs := h
theorem Blk.drewN (h : Blk w g t cs) (n : Nat) : Blk (w.drewN n) g t cs := h
theorem Blk.ext (h : Blk w g t cs) (k : Ext w w') : Blk w' g t cs := (Below.block k g h.lt).trans h
theorem Blk.below {B : Nat} (h : Blk w g t cs) (k : Below B w w') (hg : g < B) : Blk w' g t cs := (Below.block k g hg).trans h
theorem Blk.put (h : Blk w g t cs) (i : Nat) (u : Value) : Blk (w.setCell ⟨g, i, none⟩ u) g t (cs.setIfInBounds i u) := by
  unfold Blk at *
  simp [World.setCell, Array.getElem?_modify, h]
theorem Blk.far (h : Blk w g t cs) {p : Addr} (hp : g ≠ p.block) (u : Value) : Blk (w.setCell p u) g t cs := (Below.heap_setCell w p u g hp).trans h
end
theorem Ints.ext {k : IntKind} {w w' : World} {a : Option Addr} {n : Nat} {xs : List Int} (h : Ints k w a n xs) (hb : Ext w w') : Ints k w' a n xs := h.below hb
theorem Own.ext {w w' : World} {B : Nat} {v : Value} {xs : List Int} (h : Own w B v xs) (hb : Ext w w') : Own w' B v xs := h.below hb h.lt'

/-- At a load whose run is known. -/
theorem load_by {P : Program} {ops : Array Oper} {rest : List Oper} {o : Oper} {a : Act} {w : World} {Q : Exit → Act → World → Prop} (hw : Region.wanted o (yielded ops a.tmps) = true) (ty : TypeId) (x : Operand) (ho : o.op = .load ty x)
    (p : Addr) (hx : a.eval x = .pointer (some p)) (v : Value) (h : (Instr.loadAt ty (.pointer (some p))).run P w = .ok v w)
    (k : wpList P ops Q rest (a.put o.dst v) w) : wpList P ops Q (o :: rest) a w := by
  refine BigFrame.wpList_want hw fun K hK => ?_
  unfold Oper.wp execOp
  simp only [ho, hx, Sem.run_bind, h, Result.andThen_ok, Sem.run_pure]
  exact hK _ _ k

/-- A world is named by what is known of it. -/
theorem at_world {P : Program} {f : FuncId} {args : Array Value} {W : World} {Q : Ending → World → Prop} (X : World → Prop) (h : X W) (k : ∀ W', X W' → Calls P f args W' Q) : Calls P f args W Q := k W h
end Go.Proofs.YtbjogkpepfgegaaGreatDoor
namespace Go.Proofs.YtbjogkpepfgegaaGreatDoor
open Go.RowKit

/-- An address. -/
structure Six where
  x0 : Int
  x1 : Int
  x2 : Int
  x3 : Int
  x4 : Int
  x5 : Int
  x6 : Int
  x7 : Int
def Six.cells (s : Six) : Array Value := #[.int .i64 s.x0, .int .i64 s.x1, .int .i64 s.x2, .int .i64 s.x3, .int .i64 s.x4, .int .i64 s.x5, .int .i64 s.x6, .int .i64 s.x7]
abbrev Six.v (s : Six) : Value := .agg s.cells
def Six.l (s : Six) : List Int := [s.x0, s.x1, s.x2, s.x3, s.x4, s.x5, s.x6, s.x7]
def Six.Ok (s : Six) : Prop := words s.l = true
theorem Six.Ok.each {s : Six} (h : s.Ok) : (0 ≤ s.x0 ∧ s.x0 ≤ 65535) ∧ (0 ≤ s.x1 ∧ s.x1 ≤ 65535) ∧ (0 ≤ s.x2 ∧ s.x2 ≤ 65535) ∧ (0 ≤ s.x3 ∧ s.x3 ≤ 65535) ∧ (0 ≤ s.x4 ∧ s.x4 ≤ 65535) ∧ (0 ≤ s.x5 ∧ s.x5 ≤ 65535) ∧ (0 ≤ s.x6 ∧ s.x6 ≤ 65535) ∧ (0 ≤ s.x7 ∧ s.x7 ≤ 65535) := by
  unfold Six.Ok Six.l at h
  simpa [words] using h
theorem Six.Ok.at {s : Six} (h : s.Ok) (k : Nat) : 0 ≤ s.l.getD k 0 ∧ s.l.getD k 0 ≤ 65535 := by
  obtain ⟨h0, h1, h2, h3, h4, h5, h6, h7⟩ := h.each
  match k with
  | 0 => exact h0
  | 1 => exact h1
  | 2 => exact h2
  | 3 => exact h3
  | 4 => exact h4
  | 5 => exact h5
  | 6 => exact h6
  | 7 => exact h7
  | k + 8 => simp [Six.l]
theorem words_of {l : List Int} (h : ∀ x ∈ l, 0 ≤ x ∧ x ≤ 65535) : words l = true := by
  induction l with
  | nil => rfl
  | cons y r ih => simp [words, h y (List.mem_cons_self ..), ih fun x hx => h x (List.mem_cons_of_mem _ hx)]

theorem run_index_six (s : Six) (k : Nat) (hk : k < 8) (w : World) :
    (Instr.index 23 (.agg s.cells) (.int .i64 (k : Int))).run Tryz.prog w = .ok (.int .i64 (s.l.getD k 0)) w := by
  have h : k = 0 ∨ k = 1 ∨ k = 2 ∨ k = 3 ∨ k = 4 ∨ k = 5 ∨ k = 6 ∨ k = 7 := by omega
  rcases h with rfl | rfl | rfl | rfl | rfl | rfl | rfl | rfl <;> (show _ = _; kernel_rfl)
theorem Six.cells_at (s : Six) (j : Nat) (hj : j < 8) : s.cells[j]? = some (.int .i64 (s.l.getD j 0)) := by
  have h : j = 0 ∨ j = 1 ∨ j = 2 ∨ j = 3 ∨ j = 4 ∨ j = 5 ∨ j = 6 ∨ j = 7 := by omega
  rcases h with rfl | rfl | rfl | rfl | rfl | rfl | rfl | rfl <;> rfl
theorem Tryz.size6 : (Tryz.prog.info? 23).map (·.size) = some 8 := by kernel_rfl
/-- An address in a block, read whole. -/
theorem Blk.six {w : World} {g : Nat} {t : TypeId} {cs : Array Value} (h : Blk w g t cs) (off : Nat) (s : Six) (hs : ∀ j, j < 8 → cs[off + j]? = s.cells[j]?) :
    (Instr.loadAt 23 (.pointer (some ⟨g, off, none⟩))).run Tryz.prog w = .ok (.agg s.cells) w := by
  have := run_loadAt_mid (P := Tryz.prog) w g off 23 s.cells.toList _ (fun j v hv => by
    rw [Array.getElem?_toList] at hv
    have hj : j < 8 := (Array.getElem?_eq_some_iff.1 hv).1
    rw [h.cells, hs j hj]; exact hv) Tryz.underlying23 rfl Tryz.size6
  rw [Array.toArray_toList] at this
  exact this
theorem Blk.six0 {w : World} {g : Nat} {t : TypeId} {s : Six} (h : Blk w g t s.cells) : (Instr.loadAt 23 (.pointer (some ⟨g, 0, none⟩))).run Tryz.prog w = .ok (.agg s.cells) w :=
  h.six 0 s fun j _ => by rw [Nat.zero_add]

/-- What Check gives. -/
def wordsErr (l : List Int) : Value := if words l = true then .nilIface else errv 1
theorem wordsErr_yes {l : List Int} (h : words l = true) : wordsErr l = .nilIface := by unfold wordsErr; rw [if_pos h]
theorem wordsErr_no {l : List Int} (h : words l = false) : wordsErr l = errv 1 := by unfold wordsErr; rw [if_neg (by rw [h]; simp)]

set_option maxHeartbeats 800000 in
theorem check6_any (s : Six) (w : World) :
    Calls Tryz.prog 46 #[s.v] w fun e w' => e = .returned (wordsErr s.l) ∧ Ext w w' := by
  have ld := (Blk.new w 23 s.cells).six0
  unfold Six.v
  go_enter Tryz.func46, Tryz.ntmps46
  go_wp2_with ((apply load_by rfl _ _ rfl _ rfl); (focus (with_reducible assumption)))
  clear ld
  go_loop [6] (fun i => ∃ k : Nat, k ≤ 8 ∧ i = .int .i64 k ∧ words (s.l.take k) = true) (fun i => 8 - (intOf i).toNat)
  case atStart => exact ⟨0, Nat.zero_le _, rfl, rfl⟩
  case round =>
    obtain ⟨k, hk, rfl, hw⟩ := hrel
    have HW := Lib.hid hw
    clear hw
    have hE : Ext w (w.alloc (.cells s.cells 23)) := (Ext.refl w).alloc _
    have HE := Lib.hid hE
    clear hE
    by_cases hlt : k < 8
    · have hsn := words_snoc (s.l.take k) (s.l.getD k 0)
      have hbad := words_bad s.l k hlt
      rw [← take_snoc s.l k hlt, HW.out] at hsn
      have hi := fun W => run_index_six s k hlt W
      generalize s.l.getD k 0 = x at hsn hbad hi
      have HS := Lib.hid hsn
      have HB := Lib.hid hbad
      clear hsn hbad
      by_cases h1 : x < 0
      · go_wp2
        go_ret
        exact ⟨by rw [wordsErr_no (HB.out (by omega))]; rfl, HE.out⟩
      · by_cases h2 : 65535 < x
        · go_wp2
          go_ret
          exact ⟨by rw [wordsErr_no (HB.out (by omega))]; rfl, HE.out⟩
        · go_wp2
          go_round
          case rel => exact ⟨k + 1, by omega, by go_num, by rw [HS.out]; simp; omega⟩
          case measure => simp [intOf]; omega
    · have hrest : s.l.take k = s.l := List.take_of_length_le (by show 8 ≤ k; omega)
      rw [hrest] at HW
      clear hrest
      go_wp2
      go_ret
      exact ⟨by rw [wordsErr_yes HW.out]; rfl, HE.out⟩

namespace Pl
/-- The bytes of numbers of 16 bits. -/
def two (l : List Int) : List Int := l.flatMap fun n => [n / 256, n % 256]
theorem two_snoc (l : List Int) (x : Int) : two (l ++ [x]) = two l ++ [x / 256, x % 256] := by simp [two]
theorem two_isB {l : List Int} (h : ∀ x ∈ l, 0 ≤ x ∧ x ≤ 65535) : IsB (two l) := fun y hy => by
  obtain ⟨x, hx, hy⟩ := List.mem_flatMap.1 hy
  have := h x hx
  simp only [List.mem_cons, List.not_mem_nil, or_false] at hy
  rcases hy with rfl | rfl <;> omega
theorem two_length (l : List Int) : (two l).length = 2 * l.length := by
  induction l with
  | nil => rfl
  | cons x r ih => unfold two at *; rw [List.flatMap_cons, List.length_append, ih]; simp; omega
end Pl

set_option maxHeartbeats 800000 in
theorem raw6_any (s : Six) (w : World) (h : s.Ok) :
    Calls Tryz.prog 55 #[s.v] w fun e w' => ∃ v, e = .returned v ∧ Own w' w.heap.size v (Pl.two s.l) ∧ Ext w w' := by
  have HO := Lib.hid h
  clear h
  have ld := (Blk.new w 23 s.cells).six0
  unfold Six.v
  go_enter Tryz.func55, Tryz.ntmps55
  go_wp2_with ((apply load_by rfl _ _ rfl _ rfl); (focus (with_reducible assumption)))
  clear ld
  go_loopw [3, 7] (fun v i wr => ∃ k : Nat, k ≤ 8 ∧ i = .int .i64 k ∧ Own wr w.heap.size v (Pl.two (s.l.take k)) ∧ Ext w wr) (fun _ i _ => 8 - (intOf i).toNat)
  case atStart => exact ⟨0, Nat.zero_le _, rfl, Own.nil _ _, by unfold Ext; go_grown⟩
  case round =>
    obtain ⟨k, hk, rfl, ho, hE⟩ := hrel
    have HE := Lib.hid hE
    clear hE
    by_cases hlt : k < 8
    · have hi := fun W => run_index_six s k hlt W
      obtain ⟨b0, b1⟩ := HO.out.at k
      have hsn := Pl.two_snoc (s.l.take k) (s.l.getD k 0)
      rw [← take_snoc s.l k hlt] at hsn
      have hlen := Pl.two_length (s.l.take k)
      have hle : (s.l.take k).length ≤ k := List.length_take_le _ _
      generalize s.l.getD k 0 = x at hsn hi b0 b1
      have HS := Lib.hid hsn
      have HL := Lib.hid hlen
      clear hsn hlen
      have e2 : IntKind.u8.wrap x = x % 256 := by rw [IntKind.wrap_u8]
      go_wp2_with (at_builtin; refine Halt.out ?_)
      refine Halt.mk ?_
      refine app rfl _ _ rfl w.heap.size _ _ rfl (ho.ext (Below.alloc (Below.refl _ _) (Nat.le_refl _) _)) _ _ _ [x / 256, x % 256] rfl (ints_new wr _ _ _ _ _ rfl) (by rw [HL.out]; simp; omega) (by have := HE.out.size; simp; omega) ?_
      intro v' W' o' b'
      rw [← HS.out] at o'
      have hE' : Ext w W' := (Below.alloc HE.out HE.out.size _).trans b'
      have HE' := Lib.hid hE'
      clear hE' b'
      go_wp2
      go_roundw
      case rel => exact ⟨k + 1, by omega, by go_num, o', HE'.out⟩
      case measure => simp [intOf]; omega
    · have hrest : s.l.take k = s.l := List.take_of_length_le (by show 8 ≤ k; omega)
      rw [hrest] at ho
      clear hrest
      go_wp2
      go_ret
      exact ⟨_, rfl, ho, HE.out⟩

end Go.Proofs.YtbjogkpepfgegaaGreatDoor
namespace Go.Proofs.YtbjogkpepfgegaaGreatDoor
open Go.RowKit

/-- Who talks to whom. -/
structure Flow where
  kind : Int
  client : Six
  port : Int
  dst : Six
  door : Int
def Flow.cells (f : Flow) : Array Value := #[.int .i64 f.kind, .int .i64 f.client.x0, .int .i64 f.client.x1, .int .i64 f.client.x2, .int .i64 f.client.x3, .int .i64 f.client.x4, .int .i64 f.client.x5, .int .i64 f.client.x6, .int .i64 f.client.x7, .int .i64 f.port, .int .i64 f.dst.x0, .int .i64 f.dst.x1, .int .i64 f.dst.x2, .int .i64 f.dst.x3, .int .i64 f.dst.x4, .int .i64 f.dst.x5, .int .i64 f.dst.x6, .int .i64 f.dst.x7, .int .i64 f.door]
abbrev Flow.v (f : Flow) : Value := .agg f.cells
def Flow.Ok (f : Flow) : Prop := (f.kind = 6 ∨ f.kind = 17) ∧ f.client.Ok ∧ f.dst.Ok ∧ (0 ≤ f.port ∧ f.port ≤ 65535) ∧ (0 ≤ f.door ∧ f.door ≤ 65535)

theorem Tryz.sizeFlow : (Tryz.prog.info? 50).map (·.size) = some 19 := by kernel_rfl
section
variable {w : World} {g : Nat} {t : TypeId} {f : Flow}
theorem Blk.flow (h : Blk w g t f.cells) : (Instr.loadAt 50 (.pointer (some ⟨g, 0, none⟩))).run Tryz.prog w = .ok (.agg f.cells) w := by
  have := run_loadAt_mid (P := Tryz.prog) w g 0 50 f.cells.toList _ (fun j v hv => by
    rw [Array.getElem?_toList] at hv
    rw [h.cells, Nat.zero_add]; exact hv) Tryz.underlying50 rfl Tryz.sizeFlow
  rw [Array.toArray_toList] at this
  exact this
theorem Blk.fclient (h : Blk w g t f.cells) : (Instr.loadAt 23 (.pointer (some ⟨g, 1, none⟩))).run Tryz.prog w = .ok (.agg f.client.cells) w :=
  h.six 1 f.client fun j hj => by
    have h : j = 0 ∨ j = 1 ∨ j = 2 ∨ j = 3 ∨ j = 4 ∨ j = 5 ∨ j = 6 ∨ j = 7 := by omega
    rcases h with rfl | rfl | rfl | rfl | rfl | rfl | rfl | rfl <;> rfl
theorem Blk.fdst (h : Blk w g t f.cells) : (Instr.loadAt 23 (.pointer (some ⟨g, 10, none⟩))).run Tryz.prog w = .ok (.agg f.dst.cells) w :=
  h.six 10 f.dst fun j hj => by
    have h : j = 0 ∨ j = 1 ∨ j = 2 ∨ j = 3 ∨ j = 4 ∨ j = 5 ∨ j = 6 ∨ j = 7 := by omega
    rcases h with rfl | rfl | rfl | rfl | rfl | rfl | rfl | rfl <;> rfl
theorem Blk.fnums (h : Blk w g t f.cells) : w.cell? ⟨g, 0, none⟩ = some (.int .i64 f.kind) ∧ w.cell? ⟨g, 9, none⟩ = some (.int .i64 f.port) ∧ w.cell? ⟨g, 18, none⟩ = some (.int .i64 f.door) := ⟨h.cells 0, h.cells 9, h.cells 18⟩
theorem Blk.ints_client (h : Blk w g t f.cells) : Ints .i64 w (some ⟨g, 1, none⟩) 8 f.client.l :=
  h.ints rfl fun i hi => by
    have h : i = 0 ∨ i = 1 ∨ i = 2 ∨ i = 3 ∨ i = 4 ∨ i = 5 ∨ i = 6 ∨ i = 7 := by omega
    rcases h with rfl | rfl | rfl | rfl | rfl | rfl | rfl | rfl <;> rfl
theorem Blk.ints_dst (h : Blk w g t f.cells) : Ints .i64 w (some ⟨g, 10, none⟩) 8 f.dst.l :=
  h.ints rfl fun i hi => by
    have h : i = 0 ∨ i = 1 ∨ i = 2 ∨ i = 3 ∨ i = 4 ∨ i = 5 ∨ i = 6 ∨ i = 7 := by omega
    rcases h with rfl | rfl | rfl | rfl | rfl | rfl | rfl | rfl <;> rfl
end

theorem check6_ok (s : Six) (w : World) (h : s.Ok) : Calls Tryz.prog 46 #[s.v] w fun e w' => e = .returned .nilIface ∧ Ext w w' :=
  (check6_any s w).mono fun _ _ ⟨he, hx⟩ => ⟨by rw [he, wordsErr_yes h], hx⟩
theorem Six.bad {s : Six} (h : ¬ s.Ok) : words s.l = false := by
  unfold Six.Ok at h
  simpa using h
theorem check6_bad (s : Six) (w : World) (h : ¬ s.Ok) : Calls Tryz.prog 46 #[s.v] w fun e w' => e = .returned (errv 1) ∧ Ext w w' :=
  (check6_any s w).mono fun _ _ ⟨he, hx⟩ => ⟨by rw [he, wordsErr_no (Six.bad h)], hx⟩

theorem word_yes (a : Int) (w : World) (h0 : 0 ≤ a) (h1 : a ≤ 65535) :
    Calls Tryz.prog 93 #[.int .i64 a] w fun e w' => e = .returned (.bool true) ∧ w = w' := by
  go_enter Tryz.func93, Tryz.ntmps93
  go_wp2
  go_ret
  exact ⟨rfl, rfl⟩
theorem word_no (a : Int) (w : World) (h : ¬ (0 ≤ a ∧ a ≤ 65535)) :
    Calls Tryz.prog 93 #[.int .i64 a] w fun e w' => e = .returned (.bool false) ∧ w = w' := by
  by_cases h0 : 0 ≤ a
  · have h1 : ¬ a ≤ 65535 := fun h1 => h ⟨h0, h1⟩
    clear h
    go_enter Tryz.func93, Tryz.ntmps93
    go_wp2
    go_ret
    exact ⟨rfl, rfl⟩
  · clear h
    go_enter Tryz.func93, Tryz.ntmps93
    go_wp2
    go_ret
    exact ⟨rfl, rfl⟩

set_option maxHeartbeats 1600000 in
theorem bcheck_ok (f : Flow) (w : World) (h : f.Ok) :
    Calls Tryz.prog 92 #[f.v] w fun e w' => e = .returned .nilIface ∧ Ext w w' := by
  have K0 := Blk.new w 50 f.cells
  have l0c := K0.fclient
  have l0d := K0.fdst
  obtain ⟨n00, n09, n018⟩ := K0.fnums
  have E0 : Ext w (w.alloc (.cells f.cells 50)) := (Ext.refl w).alloc _
  obtain ⟨hk, hc, hd, ⟨p0, p1⟩, ⟨d0, d1⟩⟩ := h
  have HC := Lib.hid hc
  have HD := Lib.hid hd
  clear hc hd
  unfold Flow.v
  rcases hk with hk | hk
  case' inl => have e6 : (f.kind != 6) = false := by rw [hk]; rfl
  case' inr =>
    have e6 : (f.kind != 6) = true := by rw [hk]; rfl
    have e17 : (f.kind != 17) = false := by rw [hk]; rfl
  all_goals
    clear hk
    go_enter Tryz.func92, Tryz.ntmps92
    go_wp2_with (first
      | ((apply load_by rfl _ _ rfl _ rfl); (focus (with_reducible assumption)))
      | (go_at_call 46; (with_reducible refine (check6_ok f.client _ HC.out).mono ?_); rintro e w1 ⟨rfl, q1⟩; have k1 := K0.ext q1; have l1d := k1.fdst; obtain ⟨n10, n19, n118⟩ := k1.fnums)
      | (go_at_call 46; (with_reducible refine (check6_ok f.dst _ HD.out).mono ?_); rintro e w2 ⟨rfl, q2⟩; have k2 := k1.ext q2; obtain ⟨n20, n29, n218⟩ := k2.fnums)
      | (go_at_call 93; (with_reducible refine (word_yes _ _ (by assumption) (by assumption)).mono ?_); rintro e w' ⟨rfl, rfl⟩))
    go_ret
    exact ⟨rfl, (E0.trans q1).trans q2⟩

set_option maxHeartbeats 4000000 in
theorem bcheck_bad (f : Flow) (w : World) (h : ¬ f.Ok) :
    Calls Tryz.prog 92 #[f.v] w fun e w' => e = .returned (errv 1) ∧ Ext w w' := by
  have K0 := Blk.new w 50 f.cells
  have l0c := K0.fclient
  have l0d := K0.fdst
  obtain ⟨n00, n09, n018⟩ := K0.fnums
  have E0 : Ext w (w.alloc (.cells f.cells 50)) := (Ext.refl w).alloc _
  have H := Lib.hid h
  clear h
  unfold Flow.v
  by_cases hk : f.kind = 6 ∨ f.kind = 17
  case neg =>
    have e6 : (f.kind != 6) = true := by simp; omega
    have e17 : (f.kind != 17) = true := by simp; omega
    clear hk
    go_enter Tryz.func92, Tryz.ntmps92
    go_wp2
    go_ret
    exact ⟨rfl, E0⟩
  by_cases hc : f.client.Ok
  case neg =>
    have HC := Lib.hid hc
    clear hc
    rcases hk with hk | hk
    case' inl => have e6 : (f.kind != 6) = false := by rw [hk]; rfl
    case' inr =>
      have e6 : (f.kind != 6) = true := by rw [hk]; rfl
      have e17 : (f.kind != 17) = false := by rw [hk]; rfl
    all_goals
      clear hk
      go_enter Tryz.func92, Tryz.ntmps92
      go_wp2_with (first | ((apply load_by rfl _ _ rfl _ rfl); (focus (with_reducible assumption))) | (go_at_call 46; (with_reducible refine (check6_bad f.client _ HC.out).mono ?_); rintro e w1 ⟨rfl, q1⟩; unfold errv))
      go_ret
      exact ⟨rfl, E0.trans q1⟩
  have HC := Lib.hid hc
  clear hc
  by_cases hd : f.dst.Ok
  case neg =>
    have HD := Lib.hid hd
    clear hd
    rcases hk with hk | hk
    case' inl => have e6 : (f.kind != 6) = false := by rw [hk]; rfl
    case' inr =>
      have e6 : (f.kind != 6) = true := by rw [hk]; rfl
      have e17 : (f.kind != 17) = false := by rw [hk]; rfl
    all_goals
      clear hk
      go_enter Tryz.func92, Tryz.ntmps92
      go_wp2_with (first
        | ((apply load_by rfl _ _ rfl _ rfl); (focus (with_reducible assumption)))
        | (go_at_call 46; (with_reducible refine (check6_ok f.client _ HC.out).mono ?_); rintro e w1 ⟨rfl, q1⟩; have k1 := K0.ext q1; have l1d := k1.fdst; obtain ⟨n10, n19, n118⟩ := k1.fnums)
        | (go_at_call 46; (with_reducible refine (check6_bad f.dst _ HD.out).mono ?_); rintro e w2 ⟨rfl, q2⟩; unfold errv))
      go_ret
      exact ⟨rfl, (E0.trans q1).trans q2⟩
  have HD := Lib.hid hd
  clear hd
  by_cases hp : 0 ≤ f.port ∧ f.port ≤ 65535
  case neg =>
    have HP := Lib.hid hp
    clear hp
    rcases hk with hk | hk
    case' inl => have e6 : (f.kind != 6) = false := by rw [hk]; rfl
    case' inr =>
      have e6 : (f.kind != 6) = true := by rw [hk]; rfl
      have e17 : (f.kind != 17) = false := by rw [hk]; rfl
    all_goals
      clear hk
      go_enter Tryz.func92, Tryz.ntmps92
      go_wp2_with (first
        | ((apply load_by rfl _ _ rfl _ rfl); (focus (with_reducible assumption)))
        | (go_at_call 46; (with_reducible refine (check6_ok f.client _ HC.out).mono ?_); rintro e w1 ⟨rfl, q1⟩; have k1 := K0.ext q1; have l1d := k1.fdst; obtain ⟨n10, n19, n118⟩ := k1.fnums)
        | (go_at_call 46; (with_reducible refine (check6_ok f.dst _ HD.out).mono ?_); rintro e w2 ⟨rfl, q2⟩; have k2 := k1.ext q2; obtain ⟨n20, n29, n218⟩ := k2.fnums)
        | (go_at_call 93; (with_reducible refine (word_no f.port _ HP.out).mono ?_); rintro e w' ⟨rfl, rfl⟩))
      go_ret
      exact ⟨rfl, (E0.trans q1).trans q2⟩
  have hd : ¬ (0 ≤ f.door ∧ f.door ≤ 65535) := fun hd => H.out ⟨hk, HC.out, HD.out, hp, hd⟩
  have HE := Lib.hid hd
  clear hd
  obtain ⟨p0, p1⟩ := hp
  rcases hk with hk | hk
  case' inl => have e6 : (f.kind != 6) = false := by rw [hk]; rfl
  case' inr =>
    have e6 : (f.kind != 6) = true := by rw [hk]; rfl
    have e17 : (f.kind != 17) = false := by rw [hk]; rfl
  all_goals
    clear hk
    go_enter Tryz.func92, Tryz.ntmps92
    go_wp2_with (first
      | ((apply load_by rfl _ _ rfl _ rfl); (focus (with_reducible assumption)))
      | (go_at_call 46; (with_reducible refine (check6_ok f.client _ HC.out).mono ?_); rintro e w1 ⟨rfl, q1⟩; have k1 := K0.ext q1; have l1d := k1.fdst; obtain ⟨n10, n19, n118⟩ := k1.fnums)
      | (go_at_call 46; (with_reducible refine (check6_ok f.dst _ HD.out).mono ?_); rintro e w2 ⟨rfl, q2⟩; have k2 := k1.ext q2; obtain ⟨n20, n29, n218⟩ := k2.fnums)
      | (go_at_call 93; (with_reducible refine (word_yes f.port _ p0 p1).mono ?_); rintro e w' ⟨rfl, rfl⟩)
      | (go_at_call 93; (with_reducible refine (word_no f.door _ HE.out).mono ?_); rintro e w' ⟨rfl, rfl⟩))
    go_ret
    exact ⟨rfl, (E0.trans q1).trans q2⟩
end Go.Proofs.YtbjogkpepfgegaaGreatDoor
namespace Go.Proofs.YtbjogkpepfgegaaGreatDoor.Pl

/-- A server. -/
structure Back where
  id : Int
  addr : Int
  door : Int
  weight : Int
  up : Bool
  drain : Bool

/-- May it be picked? -/
def Elig (b : Back) : Prop := b.up = true ∧ b.drain = false ∧ b.weight ≠ 0
instance (b : Back) : Decidable (Elig b) := by unfold Elig; infer_instance
/-- Is b better than c? -/
def Beats (sc : Back → Int) (c b : Back) : Prop := sc c < sc b ∨ (sc c = sc b ∧ b.id < c.id)
instance (sc : Back → Int) (c b : Back) : Decidable (Beats sc c b) := by unfold Beats; infer_instance
def step (sc : Back → Int) (cur : Option Back) (b : Back) : Option Back :=
  if Elig b then (match cur with | none => some b | some c => if Beats sc c b then some b else some c) else cur
def best (sc : Back → Int) (l : List Back) : Option Back := l.foldl (step sc) none

theorem snoc_ind {α : Type} {P : List α → Prop} (h0 : P []) (hs : ∀ l a, P l → P (l ++ [a])) (l : List α) : P l := by
  rw [← List.reverse_reverse l]
  generalize l.reverse = m
  induction m with
  | nil => exact h0
  | cons a r ih => rw [List.reverse_cons]; exact hs _ _ ih

theorem best_snoc (sc : Back → Int) (l : List Back) (b : Back) : best sc (l ++ [b]) = step sc (best sc l) b := by simp [best]

theorem best_spec (sc : Back → Int) (l : List Back) : (best sc l = none ∧ ∀ y ∈ l, ¬ Elig y) ∨ ∃ x, x ∈ l ∧ best sc l = some x ∧ Elig x ∧ ∀ y ∈ l, Elig y → ¬ Beats sc x y := by
  refine snoc_ind (P := fun l => (best sc l = none ∧ ∀ y ∈ l, ¬ Elig y) ∨ ∃ x, x ∈ l ∧ best sc l = some x ∧ Elig x ∧ ∀ y ∈ l, Elig y → ¬ Beats sc x y) (.inl ⟨rfl, fun _ h => by cases h⟩) (fun l b ih => ?_) l
  · rw [best_snoc]
    unfold step
    by_cases he : Elig b
    · rw [if_pos he]
      rcases ih with ⟨h0, hn⟩ | ⟨x, hx, h0, hex, hbx⟩
      · rw [h0]
        refine .inr ⟨b, by simp, rfl, he, fun y hy hey => ?_⟩
        rcases List.mem_append.1 hy with hy | hy
        · exact absurd hey (hn y hy)
        · rw [List.mem_singleton.1 hy]
          unfold Beats
          omega
      · rw [h0]
        by_cases hb : Beats sc x b
        · simp only [if_pos hb]
          refine .inr ⟨b, by simp, rfl, he, fun y hy hey => ?_⟩
          rcases List.mem_append.1 hy with hy | hy
          · have := hbx y hy hey
            unfold Beats at *
            omega
          · rw [List.mem_singleton.1 hy]
            unfold Beats
            omega
        · simp only [if_neg hb]
          refine .inr ⟨x, by simp [hx], rfl, hex, fun y hy hey => ?_⟩
          rcases List.mem_append.1 hy with hy | hy
          · exact hbx y hy hey
          · rw [List.mem_singleton.1 hy]; exact hb
    · rw [if_neg he]
      rcases ih with ⟨h0, hn⟩ | ⟨x, hx, h0, hex, hbx⟩
      · refine .inl ⟨h0, fun y hy => ?_⟩
        rcases List.mem_append.1 hy with hy | hy
        · exact hn y hy
        · rw [List.mem_singleton.1 hy]; exact he
      · refine .inr ⟨x, by simp [hx], h0, hex, fun y hy hey => ?_⟩
        rcases List.mem_append.1 hy with hy | hy
        · exact hbx y hy hey
        · rw [List.mem_singleton.1 hy] at hey; exact absurd hey he

/-- No two have one ID. -/
def Apart (l : List Back) : Prop := l.Pairwise fun a b => a.id ≠ b.id

theorem Apart.eq {l : List Back} (h : Apart l) : ∀ {x y : Back}, x ∈ l → y ∈ l → x.id = y.id → x = y := by
  induction l with
  | nil => intro x y hx; cases hx
  | cons z r ih =>
    intro x y hx hy hxy
    rw [Apart, List.pairwise_cons] at h
    rcases List.mem_cons.1 hx with hx1 | hx1
    · rcases List.mem_cons.1 hy with hy1 | hy1
      · rw [hx1, hy1]
      · rw [hx1] at hxy; exact absurd hxy (h.1 y hy1)
    · rcases List.mem_cons.1 hy with hy1 | hy1
      · rw [hy1] at hxy; exact absurd hxy.symm (h.1 x hx1)
      · exact ih h.2 hx1 hy1 hxy

/-- Of fewer, or in another order, it is the same. -/
theorem best_sub {sc : Back → Int} {l m : List Back} {x : Back} (ha : Apart l) (hl : best sc l = some x) (hm : ∀ y ∈ m, y ∈ l) (hx : x ∈ m) : best sc m = some x := by
  rcases best_spec sc l with ⟨h0, _⟩ | ⟨x1, hx1, h1, he1, hb1⟩
  · rw [h0] at hl; cases hl
  · obtain rfl : x1 = x := by rw [h1] at hl; exact Option.some.inj hl
    rcases best_spec sc m with ⟨_, hn⟩ | ⟨x2, hx2, h2, he2, hb2⟩
    · exact absurd he1 (hn _ hx)
    · rw [h2]
      have q1 := hb1 x2 (hm _ hx2) he2
      have q2 := hb2 x1 hx he1
      have : x1.id = x2.id := by unfold Beats at *; omega
      rw [ha.eq (hm _ hx2) hx1 this.symm]
theorem best_mem {sc : Back → Int} {l : List Back} {x : Back} (hl : best sc l = some x) : x ∈ l ∧ Elig x := by
  rcases best_spec sc l with ⟨h0, _⟩ | ⟨x1, hx1, h1, he1, _⟩
  · rw [h0] at hl; cases hl
  · obtain rfl : x1 = x := by rw [h1] at hl; exact Option.some.inj hl
    exact ⟨hx1, he1⟩

theorem Apart.reverse {l : List Back} (h : Apart l) : Apart l.reverse := by
  unfold Apart at *
  rw [List.pairwise_reverse]
  exact h.imp fun hab => fun e => hab e.symm
theorem Apart.sub {l m : List Back} (h : Apart l) (hs : m.Sublist l) : Apart m := List.Pairwise.sublist hs h

/-- All but one. -/
def less (l : List Back) (k : Nat) : List Back := l.take k ++ l.drop (k + 1)
theorem less_sub (l : List Back) (k : Nat) : (less l k).Sublist l := by
  have h : (l.take k ++ l.drop (k + 1)).Sublist (l.take k ++ l.drop k) := List.Sublist.append (List.Sublist.refl _) (List.drop_sublist_drop_left l (Nat.le_succ k))
  rw [List.take_append_drop] at h
  exact h
theorem less_mem {l : List Back} (k : Nat) {x z : Back} (hk : l[k]? = some z) (hx : x ∈ l) (hne : x ≠ z) : x ∈ less l k := by
  obtain ⟨j, hj, rfl⟩ := List.mem_iff_getElem.1 hx
  obtain ⟨hk', rfl⟩ := List.getElem?_eq_some_iff.1 hk
  unfold less
  rcases Nat.lt_trichotomy j k with h | h | h
  · exact List.mem_append_left _ (List.mem_take_iff_getElem.2 ⟨j, by omega, rfl⟩)
  · subst h; exact absurd rfl hne
  · refine List.mem_append_right _ (List.mem_drop_iff_getElem.2 ⟨j - (k + 1), by omega, ?_⟩)
    congr 1
    omega
/-- Who is taken out has no other of its ID left. -/
theorem less_not {l : List Back} (ha : Apart l) (k : Nat) {z y : Back} (hk : l[k]? = some z) (hy : y ∈ less l k) : y.id ≠ z.id := by
  obtain ⟨hk', rfl⟩ := List.getElem?_eq_some_iff.1 hk
  unfold Apart at ha
  rw [List.pairwise_iff_getElem] at ha
  unfold less at hy
  rcases List.mem_append.1 hy with h | h
  · obtain ⟨j, hj, rfl⟩ := List.mem_take_iff_getElem.1 h
    exact ha j k (by omega) hk' (by omega)
  · obtain ⟨j, hj, rfl⟩ := List.mem_drop_iff_getElem.1 h
    exact fun e => ha k (k + 1 + j) hk' (by omega) (by omega) e.symm
end Go.Proofs.YtbjogkpepfgegaaGreatDoor.Pl
namespace Go.Proofs.YtbjogkpepfgegaaGreatDoor
open Go.RowKit

namespace Pl
/-- Is a number a four? -/
def isFour (a : Int) : Bool := decide (0 ≤ a ∧ a < 4294967296)
/-- The bytes of a four. -/
def four (a : Int) : List Int := [a / 16777216, a / 65536 % 256, a / 256 % 256, a % 256]
theorem four_isB {a : Int} (h0 : 0 ≤ a) (h1 : a < 4294967296) : IsB (four a) := by
  unfold four
  exact .cons (by omega) (by omega) (.cons (by omega) (by omega) (.cons (by omega) (by omega) (.cons (by omega) (by omega) .nil)))
end Pl

theorem is_yes (a : Int) (w : World) (h0 : 0 ≤ a) (h1 : a < 4294967296) :
    Calls Tryz.prog 48 #[.int .i64 a] w fun e w' => e = .returned (.bool true) ∧ w = w' := by
  go_enter Tryz.func48, Tryz.ntmps48
  go_wp2
  go_ret
  exact ⟨rfl, rfl⟩
theorem is_no (a : Int) (w : World) (h : ¬ (0 ≤ a ∧ a < 4294967296)) :
    Calls Tryz.prog 48 #[.int .i64 a] w fun e w' => e = .returned (.bool false) ∧ w = w' := by
  by_cases h0 : 0 ≤ a
  · have h1 : ¬ a < 4294967296 := fun h1 => h ⟨h0, h1⟩
    clear h
    go_enter Tryz.func48, Tryz.ntmps48
    go_wp2
    go_ret
    exact ⟨rfl, rfl⟩
  · clear h
    go_enter Tryz.func48, Tryz.ntmps48
    go_wp2
    go_ret
    exact ⟨rfl, rfl⟩

theorem raw4_any (a : Int) (w : World) (h0 : 0 ≤ a) (h1 : a < 4294967296) :
    Calls Tryz.prog 78 #[.int .i64 a] w fun e w' => ∃ v, e = .returned v ∧ Own w' w.heap.size v (Pl.four a) ∧ Below w.heap.size w w' := by
  have e1 : IntKind.u8.wrap (a / 16777216) = a / 16777216 := IntWalk.u8_in _ (by omega)
  have e2 : IntKind.u8.wrap (a / 65536) = a / 65536 % 256 := by rw [IntKind.wrap_u8]
  have e3 : IntKind.u8.wrap (a / 256) = a / 256 % 256 := by rw [IntKind.wrap_u8]
  have e4 : IntKind.u8.wrap a = a % 256 := by rw [IntKind.wrap_u8]
  go_enter Tryz.func78, Tryz.ntmps78
  go_wp2
  go_ret
  exact ⟨_, rfl, Own.built w _ _ _ 4 rfl rfl (Nat.le_refl _) (by simp [Pl.four]), by go_grown⟩
end Go.Proofs.YtbjogkpepfgegaaGreatDoor
