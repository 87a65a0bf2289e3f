/- The document's answers of layer 1: BytesOf, OverOf. Conditions: as each theorem states them. -/
import Derived.Test.YtonjifkjammopaaGreatDoorRef3
namespace Go.Proofs.YtonjifkjammopaaGreatDoor
open Go.RowKit

set_option maxRecDepth 100000 in
set_option maxHeartbeats 2000000 in
theorem bytesOf_any (s : Six) (w : World) (h : s.Ok) :
    Calls Tryz.prog 6 #[s.v] w fun e w' => ∃ v, e = .returned v ∧ Own w' w.heap.size v (Pl.two s.l) ∧ Ext w w' := by
  have HO := Lib.hid h
  clear h
  unfold Six.v
  go_enter Tryz.func6, Tryz.ntmps6
  go_wp2_with fail
  have K0 := Blk.new w 23 s.cells
  go_loopw [3, 4] (fun v i wr => ∃ k : Nat, k ≤ 8 ∧ i = .int .i64 k ∧ Own wr (w.heap.size + 1) v (Pl.two (s.l.take k)) ∧ Blk wr w.heap.size 23 s.cells ∧ Ext w wr) (fun _ i _ => 8 - (intOf i).toNat)
  case atStart => exact ⟨0, Nat.zero_le _, rfl, Own.nil _ _, K0, (Ext.refl w).alloc _⟩
  case round =>
    obtain ⟨k, hk, rfl, ho, hK, hE⟩ := hrel
    clear K0
    have hsz := hE.size
    have hlt1 := hK.lt
    by_cases hlt : k < 8
    · have hcell : wr.cell? ⟨w.heap.size, k, none⟩ = some (.int .i64 (s.l.getD k 0)) := (hK.cells k).trans (s.cells_at k hlt)
      obtain ⟨x0, x1⟩ := HO.out.at k
      have hsn := Pl.two_snoc (s.l.take k) (s.l.getD k 0)
      rw [← take_snoc s.l k hlt] at hsn
      generalize s.l.getD k 0 = x at *
      have hlen : (Pl.two (s.l.take k)).length ≤ 100 := by
        have h1 := Pl.two_length (s.l.take k)
        have h2 : (s.l.take k).length ≤ k := List.length_take_le _ _
        omega
      have HLEN := Lib.hid hlen
      have HS := Lib.hid hsn
      have HV := Lib.hid ho
      have HE := Lib.hid hE
      have HK := Lib.hid hK
      have hlt' : (k : Int) < 8 := by omega
      have t1 : IntKind.i64.wrap (x.tdiv 256) = x / 256 := by rw [Int.tdiv_eq_ediv_of_nonneg x0]; exact IntWalk.i64_in _ (by omega)
      have t2 : IntKind.i64.wrap (x.tmod 256) = x % 256 := by rw [Int.tmod_eq_emod_of_nonneg x0]; exact IntWalk.i64_in _ (by omega)
      have t3 : x.tmod 256 = x % 256 := Int.tmod_eq_emod_of_nonneg x0
      have t4 : x.tdiv 256 = x / 256 := Int.tdiv_eq_ediv_of_nonneg x0
      have t5 : IntKind.i64.wrap (x / 256) = x / 256 := IntWalk.i64_in _ (by omega)
      have t6 : IntKind.i64.wrap (x % 256) = x % 256 := IntWalk.i64_in _ (by omega)
      have e1 : IntKind.u8.wrap (x / 256) = x / 256 := IntWalk.u8_in _ (by omega)
      have e2 : IntKind.u8.wrap (x % 256) = x % 256 := IntWalk.u8_in _ (by omega)
      have hB1 : w.heap.size + 1 ≤ wr.heap.size := by omega
      clear hsn hlen ho hE hK
      go_upto_region 5 with (fail)
      go_region_law (first | (refine step_app rfl (Operand.tmp 9) (Operand.tmp 20) rfl (w.heap.size + 1) _ (Pl.two (s.l.take k)) rfl (by first | exact HV.out.ext ((Ext.refl wr).alloc _) | exact HV.out.ext (((Ext.refl wr).alloc _).drew)) _ 2 2 [x / 256, x % 256] rfl ?_ (by have := HLEN.out; omega) ?_ ?_; go_must (first | exact ints_new wr _ _ _ _ _ rfl | exact (ints_new wr _ _ _ _ _ rfl).ext ((Ext.refl _).drew)); go_must (simp; omega); intro v' W' o' b'))
      all_goals
        rw [← HS.out] at o'
        have B1 : Below (w.heap.size + 1) wr W' := by first | exact Below.trans (Below.alloc (Below.refl _ _) hB1 _) b' | exact Below.trans (Below.drew (Below.alloc (Below.refl _ _) hB1 _)) b'
        have K' := HK.out.below B1 (by omega)
        have E' : Ext w W' := Below.trans HE.out (Below.mono B1 (by omega))
        have HB' := Lib.hid E'
        have HK' := Lib.hid K'
        clear E' K' B1 b' hcell
        go_wp2_with fail
        go_roundw
        case rel => exact ⟨k + 1, by omega, by go_num, o', HK'.out, HB'.out⟩
        case measure => simp [intOf] <;> omega
    · have hrest : s.l.take k = s.l := List.take_of_length_le (by show 8 ≤ k; omega)
      rw [hrest] at ho
      have hlt' : ¬ (k : Int) < 8 := by omega
      clear hrest
      go_wp2_with fail
      go_ret
      exact ⟨_, rfl, ho.mono (by omega), hE⟩

/-- What stands over a segment, as bytes: may it be asked? -/
def okO (k n : Int) : Bool := w8 k && (decide (0 ≤ n) && decide (n ≤ 320))
theorem okO_yes {k n : Int} (h : okO k n = true) : (0 ≤ k ∧ k ≤ 255) ∧ (0 ≤ n ∧ n ≤ 320) := by
  unfold okO at h
  simp only [Bool.and_eq_true, decide_eq_true_eq] at h
  exact ⟨w8_yes h.1, h.2⟩
def bO (b : Bool) (v : Int) : Int := if b then v else 0
def eO (b : Bool) : Int := if b then 0 else 1

end Go.Proofs.YtonjifkjammopaaGreatDoor
