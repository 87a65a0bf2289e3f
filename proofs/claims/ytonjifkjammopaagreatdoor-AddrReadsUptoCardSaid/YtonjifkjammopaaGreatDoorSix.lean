/- The contracts of package addr on addresses of eight numbers: Check, Raw, Of. Conditions: as each theorem states them. -/
import Derived.Test.YtonjifkjammopaaGreatDoorSum
import Derived.Test.YtonjifkjammopaaGreatDoorMem
import Derived.Handy
import Derived.StillTailTactics
namespace Go.Proofs.YtonjifkjammopaaGreatDoor
open Go.RowKit

/-- An address. -/
structure Six where
  x0 : Int
  x1 : Int
  x2 : Int
  x3 : Int
  x4 : Int
  x5 : Int
  x6 : Int
  x7 : Int
def Six.cells (s : Six) : Array Value := #[.int .i64 s.x0, .int .i64 s.x1, .int .i64 s.x2, .int .i64 s.x3, .int .i64 s.x4, .int .i64 s.x5, .int .i64 s.x6, .int .i64 s.x7]
abbrev Six.v (s : Six) : Value := .agg s.cells
def Six.l (s : Six) : List Int := [s.x0, s.x1, s.x2, s.x3, s.x4, s.x5, s.x6, s.x7]
def Six.Ok (s : Six) : Prop := words s.l = true
theorem Six.Ok.each {s : Six} (h : s.Ok) : (0 ≤ s.x0 ∧ s.x0 ≤ 65535) ∧ (0 ≤ s.x1 ∧ s.x1 ≤ 65535) ∧ (0 ≤ s.x2 ∧ s.x2 ≤ 65535) ∧ (0 ≤ s.x3 ∧ s.x3 ≤ 65535) ∧ (0 ≤ s.x4 ∧ s.x4 ≤ 65535) ∧ (0 ≤ s.x5 ∧ s.x5 ≤ 65535) ∧ (0 ≤ s.x6 ∧ s.x6 ≤ 65535) ∧ (0 ≤ s.x7 ∧ s.x7 ≤ 65535) := by
  unfold Six.Ok Six.l at h
  simpa [words] using h
theorem Six.Ok.at {s : Six} (h : s.Ok) (k : Nat) : 0 ≤ s.l.getD k 0 ∧ s.l.getD k 0 ≤ 65535 := by
  obtain ⟨h0, h1, h2, h3, h4, h5, h6, h7⟩ := h.each
  match k with
  | 0 => exact h0
  | 1 => exact h1
  | 2 => exact h2
  | 3 => exact h3
  | 4 => exact h4
  | 5 => exact h5
  | 6 => exact h6
  | 7 => exact h7
  | k + 8 => simp [Six.l]
theorem words_of {l : List Int} (h : ∀ x ∈ l, 0 ≤ x ∧ x ≤ 65535) : words l = true := by
  induction l with
  | nil => rfl
  | cons y r ih => simp [words, h y (List.mem_cons_self ..), ih fun x hx => h x (List.mem_cons_of_mem _ hx)]

theorem run_index_six (s : Six) (k : Nat) (hk : k < 8) (w : World) :
    (Instr.index 23 (.agg s.cells) (.int .i64 (k : Int))).run Tryz.prog w = .ok (.int .i64 (s.l.getD k 0)) w := by
  have h : k = 0 ∨ k = 1 ∨ k = 2 ∨ k = 3 ∨ k = 4 ∨ k = 5 ∨ k = 6 ∨ k = 7 := by omega
  rcases h with rfl | rfl | rfl | rfl | rfl | rfl | rfl | rfl <;> (show _ = _; kernel_rfl)
theorem Six.cells_at (s : Six) (j : Nat) (hj : j < 8) : s.cells[j]? = some (.int .i64 (s.l.getD j 0)) := by
  have h : j = 0 ∨ j = 1 ∨ j = 2 ∨ j = 3 ∨ j = 4 ∨ j = 5 ∨ j = 6 ∨ j = 7 := by omega
  rcases h with rfl | rfl | rfl | rfl | rfl | rfl | rfl | rfl <;> rfl
theorem Tryz.size6 : (Tryz.prog.info? 23).map (·.size) = some 8 := by kernel_rfl
/-- An address in a block, read whole. -/
theorem Blk.six {w : World} {g : Nat} {t : TypeId} {cs : Array Value} (h : Blk w g t cs) (off : Nat) (s : Six) (hs : ∀ j, j < 8 → cs[off + j]? = s.cells[j]?) :
    (Instr.loadAt 23 (.pointer (some ⟨g, off, none⟩))).run Tryz.prog w = .ok (.agg s.cells) w := by
  have := run_loadAt_mid (P := Tryz.prog) w g off 23 s.cells.toList _ (fun j v hv => by
    rw [Array.getElem?_toList] at hv
    have hj : j < 8 := (Array.getElem?_eq_some_iff.1 hv).1
    rw [h.cells, hs j hj]; exact hv) Tryz.underlying23 rfl Tryz.size6
  rw [Array.toArray_toList] at this
  exact this
theorem Blk.six0 {w : World} {g : Nat} {t : TypeId} {s : Six} (h : Blk w g t s.cells) : (Instr.loadAt 23 (.pointer (some ⟨g, 0, none⟩))).run Tryz.prog w = .ok (.agg s.cells) w :=
  h.six 0 s fun j _ => by rw [Nat.zero_add]

/-- What Check gives. -/
def wordsErr (l : List Int) : Value := if words l = true then .nilIface else errv 1
theorem wordsErr_yes {l : List Int} (h : words l = true) : wordsErr l = .nilIface := by unfold wordsErr; rw [if_pos h]
theorem wordsErr_no {l : List Int} (h : words l = false) : wordsErr l = errv 1 := by unfold wordsErr; rw [if_neg (by rw [h]; simp)]

set_option maxHeartbeats 800000 in
theorem check6_any (s : Six) (w : World) :
    Calls Tryz.prog 8 #[s.v] w fun e w' => e = .returned (wordsErr s.l) ∧ Ext w w' := by
  have ld := (Blk.new w 23 s.cells).six0
  unfold Six.v
  go_enter Tryz.func8, Tryz.ntmps8
  go_wp2_with ((apply load_by rfl _ _ rfl _ rfl); (focus (with_reducible assumption)))
  clear ld
  go_loop [6] (fun i => ∃ k : Nat, k ≤ 8 ∧ i = .int .i64 k ∧ words (s.l.take k) = true) (fun i => 8 - (intOf i).toNat)
  case atStart => exact ⟨0, Nat.zero_le _, rfl, rfl⟩
  case round =>
    obtain ⟨k, hk, rfl, hw⟩ := hrel
    have HW := Lib.hid hw
    clear hw
    have hE : Ext w (w.alloc (.cells s.cells 23)) := (Ext.refl w).alloc _
    have HE := Lib.hid hE
    clear hE
    by_cases hlt : k < 8
    · have hsn := words_snoc (s.l.take k) (s.l.getD k 0)
      have hbad := words_bad s.l k hlt
      rw [← take_snoc s.l k hlt, HW.out] at hsn
      have hi := fun W => run_index_six s k hlt W
      generalize s.l.getD k 0 = x at hsn hbad hi
      have HS := Lib.hid hsn
      have HB := Lib.hid hbad
      clear hsn hbad
      by_cases h1 : x < 0
      · go_wp2
        go_ret
        exact ⟨by rw [wordsErr_no (HB.out (by omega))]; rfl, HE.out⟩
      · by_cases h2 : 65535 < x
        · go_wp2
          go_ret
          exact ⟨by rw [wordsErr_no (HB.out (by omega))]; rfl, HE.out⟩
        · go_wp2
          go_round
          case rel => exact ⟨k + 1, by omega, by go_num, by rw [HS.out]; simp; omega⟩
          case measure => simp [intOf]; omega
    · have hrest : s.l.take k = s.l := List.take_of_length_le (by show 8 ≤ k; omega)
      rw [hrest] at HW
      clear hrest
      go_wp2
      go_ret
      exact ⟨by rw [wordsErr_yes HW.out]; rfl, HE.out⟩

namespace Pl
/-- The bytes of numbers of 16 bits. -/
def two (l : List Int) : List Int := l.flatMap fun n => [n / 256, n % 256]
theorem two_snoc (l : List Int) (x : Int) : two (l ++ [x]) = two l ++ [x / 256, x % 256] := by simp [two]
theorem two_isB {l : List Int} (h : ∀ x ∈ l, 0 ≤ x ∧ x ≤ 65535) : IsB (two l) := fun y hy => by
  obtain ⟨x, hx, hy⟩ := List.mem_flatMap.1 hy
  have := h x hx
  simp only [List.mem_cons, List.not_mem_nil, or_false] at hy
  rcases hy with rfl | rfl <;> omega
theorem two_length (l : List Int) : (two l).length = 2 * l.length := by
  induction l with
  | nil => rfl
  | cons x r ih => unfold two at *; rw [List.flatMap_cons, List.length_append, ih]; simp; omega
end Pl

set_option maxHeartbeats 800000 in
theorem raw6_any (s : Six) (w : World) (h : s.Ok) :
    Calls Tryz.prog 25 #[s.v] w fun e w' => ∃ v, e = .returned v ∧ Own w' w.heap.size v (Pl.two s.l) ∧ Ext w w' := by
  have HO := Lib.hid h
  clear h
  have ld := (Blk.new w 23 s.cells).six0
  unfold Six.v
  go_enter Tryz.func25, Tryz.ntmps25
  go_wp2_with ((apply load_by rfl _ _ rfl _ rfl); (focus (with_reducible assumption)))
  clear ld
  go_loopw [3, 7] (fun v i wr => ∃ k : Nat, k ≤ 8 ∧ i = .int .i64 k ∧ Own wr w.heap.size v (Pl.two (s.l.take k)) ∧ Ext w wr) (fun _ i _ => 8 - (intOf i).toNat)
  case atStart => exact ⟨0, Nat.zero_le _, rfl, Own.nil _ _, by unfold Ext; go_grown⟩
  case round =>
    obtain ⟨k, hk, rfl, ho, hE⟩ := hrel
    have HE := Lib.hid hE
    clear hE
    by_cases hlt : k < 8
    · have hi := fun W => run_index_six s k hlt W
      obtain ⟨b0, b1⟩ := HO.out.at k
      have hsn := Pl.two_snoc (s.l.take k) (s.l.getD k 0)
      rw [← take_snoc s.l k hlt] at hsn
      have hlen := Pl.two_length (s.l.take k)
      have hle : (s.l.take k).length ≤ k := List.length_take_le _ _
      generalize s.l.getD k 0 = x at hsn hi b0 b1
      have HS := Lib.hid hsn
      have HL := Lib.hid hlen
      clear hsn hlen
      have e2 : IntKind.u8.wrap x = x % 256 := by rw [IntKind.wrap_u8]
      go_wp2_with (at_builtin; refine Halt.out ?_)
      refine Halt.mk ?_
      refine app rfl _ _ rfl w.heap.size _ _ rfl (ho.ext (Below.alloc (Below.refl _ _) (Nat.le_refl _) _)) _ _ _ [x / 256, x % 256] rfl (ints_new wr _ _ _ _ _ rfl) (by rw [HL.out]; simp; omega) (by have := HE.out.size; simp; omega) ?_
      intro v' W' o' b'
      rw [← HS.out] at o'
      have hE' : Ext w W' := (Below.alloc HE.out HE.out.size _).trans b'
      have HE' := Lib.hid hE'
      clear hE' b'
      go_wp2
      go_roundw
      case rel => exact ⟨k + 1, by omega, by go_num, o', HE'.out⟩
      case measure => simp [intOf]; omega
    · have hrest : s.l.take k = s.l := List.take_of_length_le (by show 8 ≤ k; omega)
      rw [hrest] at ho
      clear hrest
      go_wp2
      go_ret
      exact ⟨_, rfl, ho, HE.out⟩

end Go.Proofs.YtonjifkjammopaaGreatDoor
