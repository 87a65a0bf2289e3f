/- The document's answers of layer 1: words, BytesOf. Conditions: as each theorem states them. -/
import Derived.Test.YtkjchddidpjjmaaDoorRef2
import Derived.Deep.DeepCutAuto
import Derived.Deep.DeepMust
namespace Go.Proofs.YtkjchddidpjjmaaDoor
open Go.RowKit

set_option maxRecDepth 100000 in
set_option maxHeartbeats 2000000 in
theorem rwords_any (B : Nat) (v : Value) (ys : List Int) (a : Option Addr) (n c : Nat) (l : List Int) (w : World) (ho : Own w B v ys) (hl : Ints .i64 w a n l) (hw : ∀ x ∈ l, 0 ≤ x ∧ x ≤ 65535) (hB : B ≤ w.heap.size)
    (hap : ∀ k, v.ownBlock = some k → ∀ p, a = some p → p.block ≠ k) (hn : ys.length + 2 * n ≤ 100000) :
    Calls Tryd.prog 64 #[v, .slice a n c] w fun e w' => ∃ v', e = .returned v' ∧ Own w' B v' (ys ++ Pl.two l) ∧ Below B w w' := by
  have HW := Lib.hid hw
  have HL := Lib.hid hl.len
  have HI := Lib.hid hl
  have HAP := Lib.hid hap
  clear hw hl hap
  go_enter Tryd.func64, Tryd.ntmps64
  go_wp2_with fail
  go_loopw [0, 5] (fun v i wr => ∃ k : Nat, k ≤ n ∧ i = .int .i64 k ∧ Own wr B v (ys ++ Pl.two (l.take k)) ∧ Below B w wr ∧ Ints .i64 wr a n l ∧ ∀ k, v.ownBlock = some k → ∀ p, a = some p → p.block ≠ k) (fun _ i _ => n - (intOf i).toNat)
  case atStart => exact ⟨0, Nat.zero_le _, rfl, by simpa [Pl.two] using ho, Below.refl _ _, HI.out, HAP.out⟩
  case round =>
    obtain ⟨k, hk, rfl, hv, hb, hi, hp⟩ := hrel
    have hsz := hb.size
    clear ho
    by_cases hlt : k < n
    · obtain ⟨b, off, rfl, hbl, hc⟩ := hi.at (by omega)
      have hcell := hc k hlt
      have hx := getD_all2 HW.out k
      have hsn := Pl.two_snoc (l.take k) (l.getD k 0)
      rw [← take_snoc l k (by rw [HL.out]; exact hlt)] at hsn
      generalize l.getD k 0 = x at *
      have hlen : (ys ++ Pl.two (l.take k)).length ≤ 100000 := by
        rw [List.length_append, Pl.two_length, List.length_take, HL.out]; omega
      have HLEN := Lib.hid hlen
      have HS := Lib.hid hsn
      have HV := Lib.hid hv
      have HII := Lib.hid hi
      have HP := Lib.hid hp
      have HBB := Lib.hid hb
      have hlt' : (k : Int) < (n : Int) := by omega
      obtain ⟨x0, x1⟩ := hx
      have t1 : IntKind.i64.wrap (x.tdiv 256) = x / 256 := by rw [Int.tdiv_eq_ediv_of_nonneg x0]; exact IntWalk.i64_in _ (by omega)
      have t2 : IntKind.i64.wrap (x.tmod 256) = x % 256 := by rw [Int.tmod_eq_emod_of_nonneg x0]; exact IntWalk.i64_in _ (by omega)
      have t3 : x.tmod 256 = x % 256 := Int.tmod_eq_emod_of_nonneg x0
      have t4 : x.tdiv 256 = x / 256 := Int.tdiv_eq_ediv_of_nonneg x0
      have t5 : IntKind.i64.wrap (x / 256) = x / 256 := IntWalk.i64_in _ (by omega)
      have t6 : IntKind.i64.wrap (x % 256) = x % 256 := IntWalk.i64_in _ (by omega)
      have e1 : IntKind.u8.wrap (x / 256) = x / 256 := IntWalk.u8_in _ (by omega)
      have e2 : IntKind.u8.wrap (x % 256) = x % 256 := IntWalk.u8_in _ (by omega)
      clear hc hsn hlen hv hi hp hb HI
      go_upto_region 4 with (fail)
      go_region_law (first | (refine step_appL rfl (Operand.tmp 12) (Operand.tmp 25) rfl B _ (ys ++ Pl.two (l.take k)) rfl (by first | exact HV.out.ext ((Ext.refl wr).alloc _) | exact HV.out.ext (((Ext.refl wr).alloc _).drew) | exact HV.out.ext (((Ext.refl wr).drew).alloc _)) _ 0 2 2 [x / 256, x % 256] rfl ?_ (by omega) (by have := HLEN.out; omega) ?_ ?_; go_must (first | exact ints_new wr _ _ _ _ _ rfl | exact (ints_new wr _ _ _ _ _ rfl).ext ((Ext.refl _).drew)); go_must (simp; omega); intro v' W' o' b' g' p'))
      all_goals
        rw [List.append_assoc, ← HS.out] at o'
        have hBw : B ≤ wr.heap.size := by omega
        have B' : Below B w W' := HBB.out.trans (by first | exact Below.trans (Below.alloc (Below.refl _ _) hBw _) b' | exact Below.trans (Below.drew (Below.alloc (Below.refl _ _) hBw _)) b')
        have hi' := Ints.keepBy (HII.out.ext (by first | exact (Ext.refl wr).alloc _ | exact ((Ext.refl wr).alloc _).drew)) g' (fun p hp he => HP.out p.block he.symm p hp rfl)
        have hp' : ∀ k, v'.ownBlock = some k → ∀ p, some (⟨b, off, none⟩ : Addr) = some p → p.block ≠ k := fun k hk p hp => by
          rcases p' k hk with h | h
          · exact HP.out k h p hp
          · cases hp
            simp at h
            show b ≠ k
            omega
        have HPP := Lib.hid hp'
        have HIO := Lib.hid hi'
        have HB' := Lib.hid B'
        clear hp' hi' B' g' p' b' hcell
        go_wp2_with fail
        go_roundw
        case rel => exact ⟨k + 1, by omega, by go_num, o', HB'.out, HIO.out, HPP.out⟩
        case measure => simp [intOf] <;> omega
    · have hrest : l.take k = l := List.take_of_length_le (by rw [HL.out]; omega)
      rw [hrest] at hv
      have hlt' : ¬ (k : Int) < (n : Int) := by omega
      clear hrest
      go_wp2_with fail
      go_ret
      exact ⟨_, rfl, hv, hb⟩
end Go.Proofs.YtkjchddidpjjmaaDoor
