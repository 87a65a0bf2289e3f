/- The document's answers of layer 1: isByte, IsFour, FourBytes, BytesOf, words, SixFault. Conditions: as each theorem states them. -/
import Derived.Test.YtonjifkjammopaaGreatDoorRef1
import Derived.Test.YtonjifkjammopaaGreatDoorAppL
import Derived.Test.YtonjifkjammopaaGreatDoorAddr
import Derived.Test.YtonjifkjammopaaGreatDoorSix
import Derived.Deep.RegionLaw
namespace Go.Proofs.YtonjifkjammopaaGreatDoor
open Go.RowKit
def w8 (n : Int) : Bool := decide (0 ≤ n) && decide (n ≤ 255)
theorem w8_yes {n : Int} (h : w8 n = true) : 0 ≤ n ∧ n ≤ 255 := by unfold w8 at h; simpa using h
theorem w8_no {n : Int} (h : w8 n = false) : ¬ (0 ≤ n ∧ n ≤ 255) := by unfold w8 at h; simp at h; omega
def w32 (n : Int) : Bool := decide (0 ≤ n) && decide (n ≤ 4294967295)
theorem w32_yes {n : Int} (h : w32 n = true) : 0 ≤ n ∧ n < 4294967296 := by unfold w32 at h; simp at h; omega
theorem w32_no {n : Int} (h : w32 n = false) : ¬ (0 ≤ n ∧ n < 4294967296) := by unfold w32 at h; simp at h; omega
theorem isFour_any (n : Int) (w : World) : Calls Tryz.prog 15 #[.int .i64 n] w fun e w' => e = .returned (.bool (w32 n)) ∧ w = w' := by
  by_cases h0 : 0 ≤ n
  · by_cases h1 : n ≤ 4294967295
    · have hw : w32 n = true := by unfold w32; simp [h0, h1]
      rw [hw]
      clear hw
      go_enter Tryz.func15, Tryz.ntmps15
      go_wp2
      go_ret
      exact ⟨rfl, rfl⟩
    · have hw : w32 n = false := by unfold w32; simp [h0, h1]
      rw [hw]
      clear hw
      go_enter Tryz.func15, Tryz.ntmps15
      go_wp2
      go_ret
      exact ⟨rfl, rfl⟩
  · have hw : w32 n = false := by unfold w32; simp [h0]
    rw [hw]
    clear hw
    go_enter Tryz.func15, Tryz.ntmps15
    go_wp2
    go_ret
    exact ⟨rfl, rfl⟩
theorem is_any (n : Int) (w : World) : Calls Tryz.prog 30 #[.int .i64 n] w fun e w' => e = .returned (.bool (w32 n)) ∧ w = w' := by
  cases h : w32 n
  · exact is_no n w (w32_no h)
  · obtain ⟨h0, h1⟩ := w32_yes h
    exact is_yes n w h0 h1

/-- The fault of an address, as the document tells it. -/
def sixE (s : Six) : Int := if words s.l = true then 0 else 1
set_option maxHeartbeats 800000 in
theorem sixFault_any (s : Six) (w : World) :
    Calls Tryz.prog 4 #[s.v] w fun e w' => e = .returned (.int .i64 (sixE s)) ∧ Ext w w' := by
  unfold Six.v
  go_enter Tryz.func4, Tryz.ntmps4
  go_wp2_with fail
  have K0 := Blk.new w 23 s.cells
  go_loopw [3] (fun i wr => ∃ k : Nat, k ≤ 8 ∧ i = .int .i64 k ∧ Ext w wr ∧ Blk wr w.heap.size 23 s.cells ∧ words (s.l.take k) = true) (fun i _ => 8 - (intOf i).toNat)
  case atStart => exact ⟨0, Nat.zero_le _, rfl, (Ext.refl w).alloc _, K0, rfl⟩
  case round =>
    obtain ⟨k, hk, rfl, hE, hK, hw⟩ := hrel
    have HW := Lib.hid hw
    clear hw K0
    by_cases hlt : k < 8
    · have hc : wr.cell? ⟨w.heap.size, k, none⟩ = some (.int .i64 (s.l.getD k 0)) := (hK.cells k).trans (s.cells_at k hlt)
      have hsn := words_snoc (s.l.take k) (s.l.getD k 0)
      rw [← take_snoc s.l k hlt, HW.out, Bool.true_and] at hsn
      have hbad := words_bad s.l k hlt
      generalize s.l.getD k 0 = x at *
      have HS := Lib.hid hsn
      have HBAD := Lib.hid hbad
      have hkl : (k : Int) < 8 := by omega
      clear hsn hbad
      go_wp2_with fail
      refine (word_any x wr).mono ?_
      rintro e w' ⟨rfl, rfl⟩
      cases hx : w16 x
      · have HX := Lib.hid hx
        clear hx hc
        go_wp2_with fail
        go_ret
        refine ⟨?_, hE⟩
        have h0 : words s.l = false := HBAD.out (by have := w16_no HX.out; simpa using this)
        unfold sixE
        rw [h0]
        rfl
      · have HX := Lib.hid hx
        clear hx hc
        go_wp2_with fail
        go_roundw
        case rel => exact ⟨k + 1, by omega, by go_num, hE, hK, by rw [HS.out]; simp [w16_yes HX.out]⟩
        case measure => simp [intOf] <;> omega
    · have hrest : s.l.take k = s.l := List.take_of_length_le (by show 8 ≤ k; omega)
      rw [hrest] at HW
      have hkl : ¬ (k : Int) < 8 := by omega
      clear hrest
      go_wp2_with fail
      go_ret
      refine ⟨?_, hE⟩
      unfold sixE
      rw [HW.out]
      rfl
end Go.Proofs.YtonjifkjammopaaGreatDoor
