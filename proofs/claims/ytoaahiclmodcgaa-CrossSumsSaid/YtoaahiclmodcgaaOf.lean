/- The contract of addr.Of: sixteen bytes as an address. Conditions: as each theorem states them. -/
import Derived.Test.YtoaahiclmodcgaaFlow
import Derived.BigRegion
namespace Go.Proofs.Ytoaahiclmodcgaa
open Go.RowKit
namespace Pl
def at2 (l : List Int) (i : Nat) : Int := l.getD i 0 * 256 + l.getD (i + 1) 0
end Pl
/-- The address of sixteen bytes. -/
def sixAt (l : List Int) : Six := ⟨Pl.at2 l 0, Pl.at2 l 2, Pl.at2 l 4, Pl.at2 l 6, Pl.at2 l 8, Pl.at2 l 10, Pl.at2 l 12, Pl.at2 l 14⟩

set_option maxHeartbeats 1600000 in
theorem of6_any (b off n c : Nat) (xs : List Int) (w : World) (hx : Ints .u8 w (some ⟨b, off, none⟩) n xs) (hI : Pl.IsB xs) (hn : 16 ≤ n) :
    Calls Try.prog 25 #[.slice (some ⟨b, off, none⟩) n c] w fun e w' => e = .returned (sixAt xs).v ∧ Ext w w' := by
  obtain ⟨b', off', hbo, hbl, hc⟩ := hx.at (by omega)
  cases hbo
  have HC := Lib.hid hc
  have HI := Lib.hid hI
  clear hc hI hx
  go_enter Try.func25, Try.ntmps25
  go_wp2
  go_loopw [5] (fun i wr => ∃ k : Nat, k ≤ 8 ∧ i = .int .i64 k ∧ Below w.heap.size w wr ∧ (∀ j, wr.frozen? ⟨w.heap.size + 1, j, none⟩ = false) ∧ (∀ j, j < 8 → wr.cell? ⟨w.heap.size + 1, j, none⟩ = some (.int .i64 (if j < k then Pl.at2 xs (2 * j) else 0))) ∧ Blk wr w.heap.size 23 #[.int .i64 0, .int .i64 0, .int .i64 0, .int .i64 0, .int .i64 0, .int .i64 0, .int .i64 0, .int .i64 0]) (fun i _ => 8 - (intOf i).toNat)
  case atStart =>
    refine ⟨0, Nat.zero_le _, rfl, by go_grown, fun j => (Blk.at _ _ _ (by simp)).free j, fun j hj => ?_, (Blk.new _ _ _).alloc _⟩
    have h : j = 0 ∨ j = 1 ∨ j = 2 ∨ j = 3 ∨ j = 4 ∨ j = 5 ∨ j = 6 ∨ j = 7 := by omega
    rcases h with rfl | rfl | rfl | rfl | rfl | rfl | rfl | rfl <;> exact (Blk.at _ _ _ (by simp)).cells _
  case round =>
    obtain ⟨k, hk, rfl, hB, hF, hA, hK⟩ := hrel
    have hsz := hK.lt
    by_cases hlt : k < 8
    · have hb : b < wr.heap.size := by have := hB.size; omega
      have c0 : wr.cell? ⟨b, off + 2 * k, none⟩ = some (.int .u8 (xs.getD (2 * k) 0)) := (hB.cell (p := ⟨b, off + 2 * k, none⟩) hbl).trans (HC.out _ (by omega))
      have c1 : wr.cell? ⟨b, off + (2 * k + 1), none⟩ = some (.int .u8 (xs.getD (2 * k + 1) 0)) := (hB.cell (p := ⟨b, off + (2 * k + 1), none⟩) hbl).trans (HC.out _ (by omega))
      have hs := hA k hlt
      rw [if_neg (by omega)] at hs
      have hf := hF k
      obtain ⟨b00, b01⟩ := HI.out.getD (2 * k)
      obtain ⟨b10, b11⟩ := HI.out.getD (2 * k + 1)
      have hat : Pl.at2 xs (2 * k) = xs.getD (2 * k) 0 * 256 + xs.getD (2 * k + 1) 0 := rfl
      generalize xs.getD (2 * k) 0 = y0 at *
      generalize xs.getD (2 * k + 1) 0 = y1 at *
      have HA := Lib.hid hA
      have HF := Lib.hid hF
      have HT := Lib.hid hat
      clear hA hF hat
      have eor : bits BinOp.or IntKind.i64 (y0 * 256) y1 = y0 * 256 + y1 := or8 (by omega) (by omega) (by omega) (by omega) (by omega)
      have ew0 : IntKind.i64.wrap y0 = y0 := IntWalk.i64_in _ (by omega)
      have ew1 : IntKind.i64.wrap y1 = y1 := IntWalk.i64_in _ (by omega)
      have ew2 : IntKind.i64.wrap (y0 * 256) = y0 * 256 := IntWalk.i64_in _ (by omega)
      have i0 : (2 : Int) * (k : Int) < (n : Int) := by omega
      have i1 : (2 : Int) * (k : Int) + 1 < (n : Int) := by omega
      go_wp2_with fail
      go_region
      go_wp2
      go_roundw
      case rel =>
        refine ⟨k + 1, by omega, by go_num, ?_, ?_, ?_, ?_⟩
        · exact (hB.setCell (p := ⟨w.heap.size + 1, k, none⟩) (by show _ ≤ w.heap.size + 1; omega) _).drew
        · exact fun j => (World.frozen?_setCell ..).trans (HF.out j)
        · intro j hj
          by_cases hjk : j = k
          · subst hjk
            rw [if_pos (by omega), HT.out]
            exact World.cell?_setCell_same' _ _ _ (by rw [hs]; first | rfl | done)
          · have := HA.out j hj
            have e : (if j < k + 1 then Pl.at2 xs (2 * j) else 0) = if j < k then Pl.at2 xs (2 * j) else 0 := by
              by_cases h : j < k
              · rw [if_pos h, if_pos (by omega)]
              · rw [if_neg h, if_neg (by omega)]
            rw [e]
            exact (World.cell?_setCell_other _ _ _ _ (by simp; try omega)).trans this
        · exact (hK.far (by show w.heap.size ≠ w.heap.size + 1; omega) _).drew
      case measure => simp [intOf]; omega
    · obtain rfl : k = 8 := by omega
      have q0 := hA 0 (by omega)
      have q1 := hA 1 (by omega)
      have q2 := hA 2 (by omega)
      have q3 := hA 3 (by omega)
      have q4 := hA 4 (by omega)
      have q5 := hA 5 (by omega)
      have q6 := hA 6 (by omega)
      have q7 := hA 7 (by omega)
      have rc := hK.cells
      have rf := hK.free
      rw [if_pos (by omega)] at q0 q1 q2 q3 q4 q5 q6 q7
      clear hA
      go_wp2
      have r8 : Blk _ w.heap.size 23 (sixAt xs).cells := (((((((hK.put 0 (.int .i64 (Pl.at2 xs 0))).put 1 (.int .i64 (Pl.at2 xs 2))).put 2 (.int .i64 (Pl.at2 xs 4))).put 3 (.int .i64 (Pl.at2 xs 6))).put 4 (.int .i64 (Pl.at2 xs 8))).put 5 (.int .i64 (Pl.at2 xs 10))).put 6 (.int .i64 (Pl.at2 xs 12))).put 7 (.int .i64 (Pl.at2 xs 14))
      refine bodyPost_ret (v := (sixAt xs).v) (results_cell_row Try.results25 _ _ w.heap.size 23 _ (0, 0) _ rfl r8 Try.underlying23 rfl Try.size6) rfl ⟨rfl, ?_⟩
      unfold Ext
      go_grown
end Go.Proofs.Ytoaahiclmodcgaa
