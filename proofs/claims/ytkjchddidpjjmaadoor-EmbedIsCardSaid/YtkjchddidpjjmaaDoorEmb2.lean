/- package embed: the places of a four's bytes, one by one. Conditions: as each theorem states them. -/
import Derived.Test.YtkjchddidpjjmaaDoorEmb1
import Derived.RangeFuncNested
import Derived.RangeFuncBound
import Derived.RangeFuncCalls
import Derived.RangeFuncLeaves
import Derived.RangeFuncFrom
import Derived.Shelf.Abstract
import Derived.Shelf.RegionOpen
import Derived.WalkKit
import Derived.OwnWalkIn
import Derived.TacticsInMore
import Derived.LoopNIn
import Derived.LoopIn
namespace Go.Proofs.YtkjchddidpjjmaaDoor
open Go.RowKit Go.Shelf
attribute [local go_sem] Oper.semAt_some
namespace Pl
/-- Where a four's byte i lies behind m bytes. -/
def spot (m i : Nat) : Nat := if 8 ≤ m + i ∧ m ≤ 8 then m + i + 1 else m + i
def sp (m k : Nat) : Fin 4 × Fin 16 := (Fin.ofNat 4 k, Fin.ofNat 16 (spot m k))
def spots (m : Nat) : List (Fin 4 × Fin 16) := [sp m 0, sp m 1, sp m 2, sp m 3]
def cur (m k : Nat) : Nat := if 9 ≤ m + k ∧ m ≤ 8 then m + k + 1 else m + k
theorem cur_zero (m : Nat) : cur m 0 = m := by unfold cur; split <;> omega
theorem cur_le {m k : Nat} (h : m ≤ 12) (hk : k ≤ 4) : cur m k ≤ 17 := by unfold cur; split <;> omega
theorem spot_le {m k : Nat} (h : m ≤ 12) (hk : k ≤ 3) : spot m k ≤ 15 := by unfold spot; split <;> omega
theorem cur_spot (m k : Nat) : spot m k = if cur m k = 8 then 9 else cur m k := by
  unfold spot cur
  split <;> split <;> split <;> omega
theorem cur_next (m k : Nat) : cur m (k + 1) = spot m k + 1 := by
  unfold spot cur
  split <;> split <;> omega
theorem sp_fst {m k : Nat} (h : k < 4) : (sp m k).1.val = k := Nat.mod_eq_of_lt h
theorem sp_snd {m k : Nat} (h : m ≤ 12) (hk : k ≤ 3) : (sp m k).2.val = spot m k := Nat.mod_eq_of_lt (by have := spot_le h hk; omega)
theorem spots_snoc {m k : Nat} (h : k < 4) : (spots m).take k ++ [sp m k] = (spots m).take (k + 1) := by
  have h : k = 0 ∨ k = 1 ∨ k = 2 ∨ k = 3 := by omega
  rcases h with rfl | rfl | rfl | rfl <;> rfl
end Pl
abbrev spotv (p : Fin 4 × Fin 16) : Array Value := #[.int .i64 ((p.1.val : Nat) : Int), .int .i64 ((p.2.val : Nat) : Int)]
set_option maxHeartbeats 2000000 in
theorem spots_stops (F : Fence) (n : Nat) (hf : F.fn 91) (hro : F.round = none) (hn : 1 ≤ n) (n₀ B : Nat) (m : Nat) (hm : 4 ≤ m ∧ m ≤ 12) (w : World) (hB : Blk w B 3 #[.int .i64 (8 * (m : Int))]) :
    SeqStopsK F n Tryd.prog 91 #[.pointer (some ⟨B, 0, none⟩)] spotv (Below n₀) (fun xs => xs = Pl.spots m) (fun pre => pre <+: Pl.spots m) 4 w := fun l J Jx W hW _ _ hY h0 => by
  have hB2 : Blk W B 3 #[.int .i64 (8 * (m : Int))] := hB.ext hW
  have c0 : W.cell? ⟨B, 0, none⟩ = some (.int .i64 (8 * (m : Int))) := hB2.cells 0
  have hdiv' : Int.tdiv (8 * (m : Int)) 8 = (m : Int) := by rw [Int.mul_comm, Int.mul_tdiv_cancel _ (by decide)]
  obtain ⟨hm4, hm12⟩ := hm
  refine callsIn_of_wp Tryd.func91 rfl hf ?_ hro
  simp only [Tryd.ntmps91, List.size_toArray, List.length_cons, List.length_nil, Nat.reduceAdd, Nat.reduceSub, Array.replicate_succ, Array.replicate_zero, List.push_toArray, List.append_toArray, List.nil_append, List.cons_append]
  gi_wp2
  clear c0 hdiv' hB hB2 hW
  gi_loopw [3, 7] (fun x i wr => ∃ k : Nat, k ≤ 4 ∧ i = .int .i64 k ∧ x = .int .i64 (Pl.cur m k : Nat) ∧ J ((Pl.spots m).take k) wr) (fun _ i _ => 4 - (intOf i).toNat)
  case atStart => exact ⟨0, by omega, rfl, by rw [Pl.cur_zero], h0⟩
  case round =>
    obtain ⟨k, hk, rfl, rfl, hJ⟩ := hrel
    by_cases hlt : k < 4
    · have hk4 : (k : Int) < 4 := by omega
      obtain ⟨fn, tmps, assign, body, hy, hR⟩ := hY _ (Pl.sp m k) wr hJ (by rw [List.length_take]; omega)
      rw [Pl.spots_snoc hlt] at hR
      dsimp only [spotv] at hy
      rw [Pl.sp_fst hlt, Pl.sp_snd hm12 (by omega)] at hy
      have hb : Pl.cur m k ≤ 17 := Pl.cur_le (by omega) (by omega)
      have hsl : Pl.spot m k ≤ 15 := Pl.spot_le (by omega) (by omega)
      have hcs := Pl.cur_spot m k
      have hcn := Pl.cur_next m k
      by_cases h8 : Pl.cur m k = 8
      case' pos =>
        have h9 : Pl.spot m k = 9 := by rw [hcs, if_pos h8]
        have e9 : ((Pl.spot m k : Nat) : Int) = 9 := by rw [h9]; rfl
        have e8 : ((Pl.cur m k : Nat) : Int) = 8 := by rw [h8]; rfl
        simp only [e9] at hy hR
        rw [h9] at hcn
        rw [e8]
        clear e9 e8
      case' neg =>
        have h9 : Pl.spot m k = Pl.cur m k := by rw [hcs, if_neg h8]
        simp only [h9] at hy hR hcn
        have h8' : ¬ ((Pl.cur m k : Nat) : Int) = 8 := by omega
      all_goals
        have HN := Lib.hid hcn
        clear hcn hcs h8 h9
        gi_wp2
        refine hR.mono ?_
        rintro e W3 (⟨rfl, hJ3, hk3⟩ | ⟨rfl, hJx3⟩)
        · gi_wp2
          go_roundw
          case rel =>
            exact ⟨k + 1, by omega, by go_num, by rw [HN.out]; go_num, hJ3⟩
          case measure => simp [intOf]; omega
        · gi_wp2
          refine bodyPost_ret (results_none rfl _ _ _) rfl ?_
          exact ⟨⟨_, rfl⟩, .inr ⟨_, List.take_prefix _ _, hJx3⟩⟩
    · obtain rfl : k = 4 := by omega
      gi_wp2
      go_end0
      exact ⟨⟨_, rfl⟩, .inl ⟨_, rfl, hJ⟩⟩
end Go.Proofs.YtkjchddidpjjmaaDoor
