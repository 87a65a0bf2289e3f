/- Lemmas of this seat, bound together: Emb2 Rnd Emb3 Ref1 AppL Ref2 Ref3 Ref4 Ref6s Mix Score SixEq. Conditions: as each lemma states them. -/
import Derived.Test.YtbjogkpepfgegaaGreatDoorK02
import Derived.RangeFuncNested
import Derived.RangeFuncBound
import Derived.RangeFuncCalls
import Derived.RangeFuncLeaves
import Derived.RangeFuncFrom
import Derived.Shelf.Abstract
import Derived.Shelf.RegionOpen
import Derived.WalkKit
import Derived.OwnWalkIn
import Derived.TacticsInMore
import Derived.LoopNIn
import Derived.LoopIn
import Derived.Test.YtbjogkpepfgegaaGreatDoorK01
import Derived.Deep.RegionHeld3
import Derived.Test.YtbjogkpepfgegaaGreatDoorK00
import Derived.Deep.AppendLies
import Derived.Deep.RegionLaw
import Derived.Deep.DeepCutAuto
import Derived.Deep.DeepMust
import Derived.Laws.StructEq
namespace Go.Proofs.YtbjogkpepfgegaaGreatDoor
open Go.RowKit Go.Shelf
attribute [local go_sem] Oper.semAt_some
namespace Pl
/-- Where a four's byte i lies behind m bytes. -/
def spot (m i : Nat) : Nat := if 8 ≤ m + i ∧ m ≤ 8 then m + i + 1 else m + i
def sp (m k : Nat) : Fin 4 × Fin 16 := (Fin.ofNat 4 k, Fin.ofNat 16 (spot m k))
def spots (m : Nat) : List (Fin 4 × Fin 16) := [sp m 0, sp m 1, sp m 2, sp m 3]
def cur (m k : Nat) : Nat := if 9 ≤ m + k ∧ m ≤ 8 then m + k + 1 else m + k
theorem cur_zero (m : Nat) : cur m 0 = m := by unfold cur; split <;> omega
theorem cur_le {m k : Nat} (h : m ≤ 12) (hk : k ≤ 4) : cur m k ≤ 17 := by unfold cur; split <;> omega
theorem spot_le {m k : Nat} (h : m ≤ 12) (hk : k ≤ 3) : spot m k ≤ 15 := by unfold spot; split <;> omega
theorem cur_spot (m k : Nat) : spot m k = if cur m k = 8 then 9 else cur m k := by
  unfold spot cur
  split <;> split <;> split <;> omega
theorem cur_next (m k : Nat) : cur m (k + 1) = spot m k + 1 := by
  unfold spot cur
  split <;> split <;> omega
theorem sp_fst {m k : Nat} (h : k < 4) : (sp m k).1.val = k := Nat.mod_eq_of_lt h
theorem sp_snd {m k : Nat} (h : m ≤ 12) (hk : k ≤ 3) : (sp m k).2.val = spot m k := Nat.mod_eq_of_lt (by have := spot_le h hk; omega)
theorem spots_snoc {m k : Nat} (h : k < 4) : (spots m).take k ++ [sp m k] = (spots m).take (k + 1) := by
  have h : k = 0 ∨ k = 1 ∨ k = 2 ∨ k = 3 := by omega
  rcases h with rfl | rfl | rfl | rfl <;> rfl
end Pl
abbrev spotv (p : Fin 4 × Fin 16) : Array Value := #[.int .i64 ((p.1.val : Nat) : Int), .int .i64 ((p.2.val : Nat) : Int)]
set_option maxHeartbeats 2000000 in
theorem spots_stops (F : Fence) (n : Nat) (hf : F.fn 107) (hro : F.round = none) (hn : 1 ≤ n) (n₀ B : Nat) (m : Nat) (hm : 4 ≤ m ∧ m ≤ 12) (w : World) (hB : Blk w B 3 #[.int .i64 (8 * (m : Int))]) :
    SeqStopsK F n Tryz.prog 107 #[.pointer (some ⟨B, 0, none⟩)] spotv (Below n₀) (fun xs => xs = Pl.spots m) (fun pre => pre <+: Pl.spots m) 4 w := fun l J Jx W hW _ _ hY h0 => by
  have hB2 : Blk W B 3 #[.int .i64 (8 * (m : Int))] := hB.ext hW
  have c0 : W.cell? ⟨B, 0, none⟩ = some (.int .i64 (8 * (m : Int))) := hB2.cells 0
  have hdiv' : Int.tdiv (8 * (m : Int)) 8 = (m : Int) := by rw [Int.mul_comm, Int.mul_tdiv_cancel _ (by decide)]
  obtain ⟨hm4, hm12⟩ := hm
  refine callsIn_of_wp Tryz.func107 rfl hf ?_ hro
  simp only [Tryz.ntmps107, List.size_toArray, List.length_cons, List.length_nil, Nat.reduceAdd, Nat.reduceSub, Array.replicate_succ, Array.replicate_zero, List.push_toArray, List.append_toArray, List.nil_append, List.cons_append]
  gi_wp2
  clear c0 hdiv' hB hB2 hW
  gi_loopw [3, 7] (fun x i wr => ∃ k : Nat, k ≤ 4 ∧ i = .int .i64 k ∧ x = .int .i64 (Pl.cur m k : Nat) ∧ J ((Pl.spots m).take k) wr) (fun _ i _ => 4 - (intOf i).toNat)
  case atStart => exact ⟨0, by omega, rfl, by rw [Pl.cur_zero], h0⟩
  case round =>
    obtain ⟨k, hk, rfl, rfl, hJ⟩ := hrel
    by_cases hlt : k < 4
    · have hk4 : (k : Int) < 4 := by omega
      obtain ⟨fn, tmps, assign, body, hy, hR⟩ := hY _ (Pl.sp m k) wr hJ (by rw [List.length_take]; omega)
      rw [Pl.spots_snoc hlt] at hR
      dsimp only [spotv] at hy
      rw [Pl.sp_fst hlt, Pl.sp_snd hm12 (by omega)] at hy
      have hb : Pl.cur m k ≤ 17 := Pl.cur_le (by omega) (by omega)
      have hsl : Pl.spot m k ≤ 15 := Pl.spot_le (by omega) (by omega)
      have hcs := Pl.cur_spot m k
      have hcn := Pl.cur_next m k
      by_cases h8 : Pl.cur m k = 8
      case' pos =>
        have h9 : Pl.spot m k = 9 := by rw [hcs, if_pos h8]
        have e9 : ((Pl.spot m k : Nat) : Int) = 9 := by rw [h9]; rfl
        have e8 : ((Pl.cur m k : Nat) : Int) = 8 := by rw [h8]; rfl
        simp only [e9] at hy hR
        rw [h9] at hcn
        rw [e8]
        clear e9 e8
      case' neg =>
        have h9 : Pl.spot m k = Pl.cur m k := by rw [hcs, if_neg h8]
        simp only [h9] at hy hR hcn
        have h8' : ¬ ((Pl.cur m k : Nat) : Int) = 8 := by omega
      all_goals
        have HN := Lib.hid hcn
        clear hcn hcs h8 h9
        gi_wp2
        refine hR.mono ?_
        rintro e W3 (⟨rfl, hJ3, hk3⟩ | ⟨rfl, hJx3⟩)
        · gi_wp2
          go_roundw
          case rel =>
            exact ⟨k + 1, by omega, by go_num, by rw [HN.out]; go_num, hJ3⟩
          case measure => simp [intOf]; omega
        · gi_wp2
          refine bodyPost_ret (results_none rfl _ _ _) rfl ?_
          exact ⟨⟨_, rfl⟩, .inr ⟨_, List.take_prefix _ _, hJx3⟩⟩
    · obtain rfl : k = 4 := by omega
      gi_wp2
      go_end0
      exact ⟨⟨_, rfl⟩, .inl ⟨_, rfl, hJ⟩⟩
end Go.Proofs.YtbjogkpepfgegaaGreatDoor
namespace Go.Proofs.YtbjogkpepfgegaaGreatDoor
open Go.RowKit
def noDefer (ops : Array Oper) : Bool := ops.all fun o => match o.op with | .defer _ => false | _ => true
theorem noDefer_at {ops : Array Oper} (h : noDefer ops = true) {i : Nat} {o : Oper} (ho : ops[i]? = some o) : ∀ c, o.op ≠ .defer c := fun c hc => by
  have h1 := Array.all_eq_true'.1 h o (Array.mem_of_getElem? ho)
  rw [hc] at h1
  cases h1
theorem oper_round {P : Program} {Q : Exit → Act → World → Prop} (l n : Nat) {o : Oper} (ho : ∀ c, o.op ≠ .defer c) {a : Act} {w : World} {K K' : Act → World → Prop} (hK : ∀ a w, K a w → K' a w)
    (h : Oper.wp P o a w K Q) : Oper.wpIn (Fence.wide.inRound l) n P o a w K' Q := by
  refine ⟨fun _ _ => trivial, ?_⟩
  rw [Oper.semAt_plain _ _ _ ho]
  unfold Oper.wp at h
  generalize (execOp a.eval o).run P w = r at h ⊢
  cases r with
  | ok x w' =>
    cases x with
    | value v => exact hK _ _ h
    | skip => exact hK _ _ h
    | defer d => exact hK _ _ h
    | enter f args =>
      refine ⟨(by intro hh; cases hh), (CallsIn.inRound l (callsIn_wide.2 h)).mono fun e w'' he => ?_⟩
      cases e with
      | returned v => exact hK _ _ he
      | panicked c => exact he
      | outgrown => exact he
    | row row args =>
      refine ⟨(by intro hh; cases hh), ?_⟩
      have h' : Rows P row args w' (fun v w'' => K (a.put o.dst v) w'') := h
      exact fun c cs _ => let ⟨v, w'', r, s⟩ := h' c cs; ⟨v, w'', hK _ _ r, stepsIn_wide.2 s⟩
    | _ => exact h.elim
  | halt x w' =>
    cases x with
    | panic v => exact h
    | _ => exact h.elim
theorem ops_round {P : Program} {ops : Array Oper} {Q : Exit → Act → World → Prop} (l n : Nat) (hd : noDefer ops = true) (hQ : ¬ LetsOut Q) : ∀ (is : List Nat) (a : Act) (w : World), wpOps P ops Q is a w → wpOpsIn (Fence.wide.inRound l) n P ops Q is a w := by
  intro is
  induction is with
  | nil => exact fun _ _ h => h
  | cons i rest ih =>
    intro a w h
    unfold wpOps at h
    unfold wpOpsIn
    cases ho : ops[i]? with
    | none => rw [ho] at h; exact ih _ _ h
    | some o =>
      rw [ho] at h
      simp only at h ⊢
      split
      · rename_i hw
        rw [if_pos hw] at h
        rcases h with h | ⟨_, h⟩
        · exact oper_round l n (noDefer_at hd ho) (fun a w => ih a w) h
        · exact absurd h hQ
      · rename_i hw
        rw [if_neg hw] at h
        exact ⟨fun _ _ => trivial, ih _ _ h⟩
theorem wpIn_region_round {P : Program} {ops : Array Oper} {Q : Exit → Act → World → Prop} {S : World → Prop} {id n l : Nat} {a : Act} {w : World} (hm : P.follows .mixedOrders = true) (hd : noDefer ops = true) (hQ : ¬ LetsOut Q) (hS : S w.drew)
    (h : S w.drew → wpAnyH P .any ops Q S ops.size (Array.replicate ops.size false) a w.drew) : (Code.region id ops true).wpIn (Fence.wide.inRound l) n P Q a w :=
  wpIn_region_draw fun t => by
    refine ops_round l n hd hQ _ _ _ ?_
    simp only [Region.schedule, hm, Bool.true_or, if_true]
    exact wpAny_sound ops.size t _ a _ (wpAny_of_held _ _ _ _ (h hS))
end Go.Proofs.YtbjogkpepfgegaaGreatDoor
namespace Go.Proofs.YtbjogkpepfgegaaGreatDoor
open Go.RowKit Go.Shelf
attribute [local go_sem] Oper.semAt_some
section
variable {W W' : World} {row : Option Nat}
theorem kept_row {g : Nat} {cs : Array Value} {t : TypeId} (h : Blk W g t cs) (hg : W.grownBy W' row) (hr : ∀ r, row = some r → ∃ o : Obj, W.heap[r]? = some o ∧ o.isCells = false) : Blk W' g t cs := by
  refine (hg.block g h.lt (fun e => ?_)).trans h
  obtain ⟨o, ho, hc⟩ := hr g (by first | exact e | exact e.symm)
  rw [show W.heap[g]? = _ from h] at ho
  cases ho
  cases hc
theorem kept_ints {k : IntKind} {a : Option Addr} {n : Nat} {xs : List Int} (h : Ints k W a n xs) (hg : W.grownBy W' row) (hr : ∀ r, row = some r → ∃ o : Obj, W.heap[r]? = some o ∧ o.isCells = false) : Ints k W' a n xs := by
  refine ⟨h.1, ?_⟩
  rcases h.2 with h0 | ⟨b, off, rfl, hc⟩
  · exact .inl h0
  · exact .inr ⟨b, off, rfl, fun i hi => cell_kept (hc i hi) hg hr⟩
theorem kept_own {B : Nat} {v : Value} {xs : List Int} (h : Own W B v xs) (hg : W.grownBy W' row) (hr : ∀ r, row = some r → ∃ o : Obj, W.heap[r]? = some o ∧ o.isCells = false) : Own W' B v xs := by
  refine ⟨h.1, ?_⟩
  rcases h.2 with hn | ⟨g, cap, cur, rfl, hb, hh, rest⟩
  · exact .inl hn
  · exact .inr ⟨g, cap, cur, rfl, hb, kept_row hh hg hr, rest⟩
end
namespace Pl
/-- Bytes with those of a four at their places. -/
def put (b f : List Int) (pre : List (Fin 4 × Fin 16)) : List Int := pre.foldl (fun b p => b.set p.2.val (f.getD p.1.val 0)) b
theorem put_snoc (b f : List Int) (pre : List (Fin 4 × Fin 16)) (p : Fin 4 × Fin 16) : put b f (pre ++ [p]) = (put b f pre).set p.2.val (f.getD p.1.val 0) := by simp [put]
theorem put_length (b f : List Int) (pre : List (Fin 4 × Fin 16)) : (put b f pre).length = b.length := by
  induction pre generalizing b with
  | nil => rfl
  | cons p r ih => show (put (b.set p.2.val (f.getD p.1.val 0)) f r).length = _; rw [ih, List.length_set]
theorem put_isB {b f : List Int} (hb : IsB b) (hf : IsB f) (pre : List (Fin 4 × Fin 16)) : IsB (put b f pre) := by
  induction pre generalizing b with
  | nil => exact hb
  | cons p r ih =>
    refine ih (b := b.set p.2.val (f.getD p.1.val 0)) fun x hx => ?_
    rcases List.mem_or_eq_of_mem_set hx with h | h
    · exact hb x h
    · rw [h]; exact hf.getD _
end Pl

end Go.Proofs.YtbjogkpepfgegaaGreatDoor
namespace Go.Proofs.YtbjogkpepfgegaaGreatDoor
open Go.RowKit
/-- Is a number one of 16 bits? -/
def w16 (n : Int) : Bool := decide (0 ≤ n) && decide (n ≤ 65535)
theorem w16_yes {n : Int} (h : w16 n = true) : 0 ≤ n ∧ n ≤ 65535 := by unfold w16 at h; simpa using h
theorem w16_no {n : Int} (h : w16 n = false) : decide (0 ≤ n ∧ n ≤ 65535) = false := by
  unfold w16 at h
  by_cases h0 : 0 ≤ n <;> by_cases h1 : n ≤ 65535 <;> simp_all
end Go.Proofs.YtbjogkpepfgegaaGreatDoor
namespace Go.Proofs.YtbjogkpepfgegaaGreatDoor
open Go.RowKit

theorem Ints.keepBy {k : IntKind} {w w' : World} {a : Option Addr} {n : Nat} {xs : List Int} {row : Option Nat} (h : Ints k w a n xs) (hb : w.grownBy w' row) (hg : ∀ p, a = some p → some p.block ≠ row) : Ints k w' a n xs := by
  refine ⟨h.1, ?_⟩
  rcases h.2 with h0 | ⟨b, off, rfl, hc⟩
  · exact .inl h0
  · refine .inr ⟨b, off, rfl, fun i hi => ?_⟩
    have := hc i hi
    rw [World.cell?_of_block (hb.block b (World.block_lt_of_cell? w _ this) (hg _ rfl))]
    exact this

theorem getD_all2 {xs : List Int} (h : ∀ x ∈ xs, 0 ≤ x ∧ x ≤ 65535) (k : Nat) : 0 ≤ xs.getD k 0 ∧ xs.getD k 0 ≤ 65535 := by
  by_cases hk : k < xs.length
  · rw [List.getD_eq_getElem?_getD, List.getElem?_eq_getElem hk]
    exact h _ (List.getElem_mem hk)
  · rw [List.getD_eq_getElem?_getD, List.getElem?_eq_none (by omega)]
    exact ⟨Int.le_refl 0, by decide⟩

/-- At a step of a region that draws its order. -/
theorem step_appL {w : World} {ops : Array Oper} {o : Oper} {a : Act} {K : Act → World → Prop} {Q : Exit → Act → World → Prop} {E : Prop} (hgd : o.guard = none) (s x : Operand)
    (ho : o.op = .call { callee := .builtin .append, args := #[s, x], argTypes := #[37, 37] })
    (B : Nat) (v : Value) (ys : List Int) (hs : a.eval s = v) (hown : Own w B v ys) (b off m c : Nat) (xs : List Int) (hx : a.eval x = .slice (some ⟨b, off, none⟩) m c) (hr : Ints .u8 w (some ⟨b, off, none⟩) m xs)
    (hm : 0 < m) (hmax : ys.length + m ≤ 1099511627776) (hbase : B ≤ w.heap.size)
    (h : ∀ v' w', Own w' B v' (ys ++ xs) → Below B w w' → w.grownBy w' v.ownBlock → (∀ k, v'.ownBlock = some k → v.ownBlock = some k ∨ k = w.heap.size) → K (a.put o.dst v') w') :
    if Region.wanted o (yielded ops a.tmps) = true then Oper.wp Tryz.prog o a w K Q else E := by
  obtain ⟨i0, hi, hz0, hz1, hz2⟩ := info_parts Tryz.infoU8
  obtain ⟨b', off', hb, _, hc⟩ := hr.at hm
  simp only [Option.some.injEq, Addr.mk.injEq, and_true] at hb
  obtain ⟨rfl, rfl⟩ := hb
  have hl : (bcells xs).length = m * 1 := by rw [bcells_length, hr.len, Nat.mul_one]
  refine step_append_lies w hgd s x _ ho B _ i0 _ 1 1 Tryz.underlying37 hi hz0 hz1 hz2 rfl (by decide) v _ (bcells ys) hs hown ⟨b, off, none⟩ m c (bcells xs) hx hl ?_ (bcells_one xs) hm (by unfold maxLen; omega) (by omega) hbase _ rfl ?_
  · intro j u hj
    have hlt : j < m := by have := (List.getElem?_eq_some_iff.1 hj).1; rw [bcells_length, hr.len] at this; exact this
    have hlt' : j < xs.length := by rw [hr.len]; exact hlt
    rw [bcells, List.getElem?_map, List.getElem?_eq_getElem hlt'] at hj
    simp only [Option.map_some, Option.some.injEq] at hj
    rw [← hj]
    have := hc j hlt
    simp [List.getD, hlt'] at this
    rw [Addr.add_lit]
    exact this
  · intro g cap w' ho' hg hv _
    refine h _ w' ?_ ((Below.refl B w).grown hg hbase fun k hk => (hown.lt k hk).1) hg fun k hk => ?_
    · unfold Own
      rw [List.length_append, hr.len, ← bcells_append]
      exact ho'
    · cases hk
      exact hv
end Go.Proofs.YtbjogkpepfgegaaGreatDoor
namespace Go.Proofs.YtbjogkpepfgegaaGreatDoor
open Go.RowKit
def w8 (n : Int) : Bool := decide (0 ≤ n) && decide (n ≤ 255)
theorem w8_yes {n : Int} (h : w8 n = true) : 0 ≤ n ∧ n ≤ 255 := by unfold w8 at h; simpa using h
theorem w8_no {n : Int} (h : w8 n = false) : ¬ (0 ≤ n ∧ n ≤ 255) := by unfold w8 at h; simp at h; omega
def w32 (n : Int) : Bool := decide (0 ≤ n) && decide (n ≤ 4294967295)
theorem w32_yes {n : Int} (h : w32 n = true) : 0 ≤ n ∧ n < 4294967296 := by unfold w32 at h; simp at h; omega
theorem w32_no {n : Int} (h : w32 n = false) : ¬ (0 ≤ n ∧ n < 4294967296) := by unfold w32 at h; simp at h; omega
theorem is_any (n : Int) (w : World) : Calls Tryz.prog 48 #[.int .i64 n] w fun e w' => e = .returned (.bool (w32 n)) ∧ w = w' := by
  cases h : w32 n
  · exact is_no n w (w32_no h)
  · obtain ⟨h0, h1⟩ := w32_yes h
    exact is_yes n w h0 h1

/-- The fault of an address, as the document tells it. -/
def sixE (s : Six) : Int := if words s.l = true then 0 else 1
end Go.Proofs.YtbjogkpepfgegaaGreatDoor
namespace Go.Proofs.YtbjogkpepfgegaaGreatDoor
open Go.RowKit

end Go.Proofs.YtbjogkpepfgegaaGreatDoor
namespace Go.Proofs.YtbjogkpepfgegaaGreatDoor
open Go.RowKit

/-- What stands over a segment, as bytes: may it be asked? -/
def okO (k n : Int) : Bool := w8 k && (decide (0 ≤ n) && decide (n ≤ 320))
theorem okO_yes {k n : Int} (h : okO k n = true) : (0 ≤ k ∧ k ≤ 255) ∧ (0 ≤ n ∧ n ≤ 320) := by
  unfold okO at h
  simp only [Bool.and_eq_true, decide_eq_true_eq] at h
  exact ⟨w8_yes h.1, h.2⟩
def bO (b : Bool) (v : Int) : Int := if b then v else 0
def eO (b : Bool) : Int := if b then 0 else 1

end Go.Proofs.YtbjogkpepfgegaaGreatDoor
namespace Go.Proofs.YtbjogkpepfgegaaGreatDoor
open Go.RowKit
theorem sixAt_take (l : List Int) : sixAt (l.take 16) = sixAt l := by
  unfold sixAt Pl.at2
  simp [List.getD]
end Go.Proofs.YtbjogkpepfgegaaGreatDoor
namespace Go.Proofs.YtbjogkpepfgegaaGreatDoor
open Go.RowKit
namespace Pl
def mix1 (m n : Int) : Int := (m * 69069 + n + 1) % 2147483648
def mix (m : Int) (l : List Int) : Int := l.foldl mix1 m
theorem mix_snoc (m : Int) (l : List Int) (x : Int) : mix m (l ++ [x]) = mix1 (mix m l) x := by simp [mix]
theorem mix_append (m : Int) (l k : List Int) : mix m (l ++ k) = mix (mix m l) k := by simp [mix]
theorem mix_bd (m : Int) (l : List Int) (h : 0 ≤ m ∧ m < 2147483648) : 0 ≤ mix m l ∧ mix m l < 2147483648 := by
  refine snoc_ind (P := fun l => 0 ≤ mix m l ∧ mix m l < 2147483648) h (fun l a _ => ?_) l
  rw [mix_snoc]
  unfold mix1
  omega
end Pl

/-- Only block g has turned (and what is new). -/
theorem only_set {a w : World} {g : Nat} (h : a.grownBy w (some g)) (j : Nat) (u : Value) : a.grownBy (w.setCell ⟨g, j, none⟩ u) (some g) :=
  ⟨h.os, h.tape, h.output, by simpa [World.setCell] using h.size, fun i hi hne => (Below.heap_setCell w ⟨g, j, none⟩ u i (by rintro rfl; exact hne rfl)).trans (h.block i hi hne)⟩
theorem Blk.only {w w' : World} {g g' : Nat} {t : TypeId} {cs : Array Value} (h : Blk w g t cs) (hb : w.grownBy w' (some g')) (hg : g ≠ g') : Blk w' g t cs := (hb.block g h.lt (fun e => hg (Option.some.inj e))).trans h
theorem Ints.only {k : IntKind} {w w' : World} {a : Option Addr} {n : Nat} {xs : List Int} {g : Nat} (h : Ints k w a n xs) (hb : w.grownBy w' (some g)) (hg : ∀ p, a = some p → p.block ≠ g) : Ints k w' a n xs := by
  refine ⟨h.1, ?_⟩
  rcases h.2 with h0 | ⟨b, off, rfl, hc⟩
  · exact .inl h0
  · refine .inr ⟨b, off, rfl, fun i hi => ?_⟩
    have := hc i hi
    rw [World.cell?_of_block (hb.block b (World.block_lt_of_cell? w _ this) (fun e => hg _ rfl (Option.some.inj e)))]
    exact this
theorem Below.only {B : Nat} {a w w' : World} {g : Nat} (h : Below B a w) (hb : w.grownBy w' (some g)) (hB : B ≤ w.heap.size) (hg : B ≤ g) : Below B a w' := h.grown hb hB fun _ e => by rw [← Option.some.inj e]; exact hg

theorem words_at {l : List Int} (h : words l = true) (k : Nat) : 0 ≤ l.getD k 0 ∧ l.getD k 0 ≤ 65535 := by
  by_cases hk : k < l.length
  · by_cases hb : 0 ≤ l.getD k 0 ∧ l.getD k 0 ≤ 65535
    · exact hb
    · rw [words_bad l k hk hb] at h; cases h
  · rw [List.getD_eq_getElem?_getD, List.getElem?_eq_none (by omega)]; simp

set_option maxHeartbeats 800000 in
theorem mix_any (g : Nat) (t : TypeId) (m : Int) (a : Option Addr) (n c : Nat) (xs : List Int) (w : World) (hp : Blk w g t #[.int .i64 m])
    (hm : 0 ≤ m ∧ m < 2147483648) (hx : Ints .i64 w a n xs) (hr : words xs = true) (hg : ∀ p, a = some p → p.block ≠ g) (hn : n ≤ 65536) :
    Calls Tryz.prog 106 #[.pointer (some ⟨g, 0, none⟩), .slice a n c] w fun e w' => e = .returned (.tuple #[]) ∧ Blk w' g t #[.int .i64 (Pl.mix m xs)] ∧ w.grownBy w' (some g) := by
  have HR := Lib.hid hr
  have HX := Lib.hid hx
  have HG := Lib.hid hg
  have HL := Lib.hid hx.len
  clear hr hx hg
  go_enter Tryz.func106, Tryz.ntmps106
  go_wp2
  go_loopw [8] (fun i wr => ∃ k : Nat, k ≤ n ∧ i = .int .i64 k ∧ Blk wr g t #[.int .i64 (Pl.mix m (xs.take k))] ∧ w.grownBy wr (some g)) (fun i _ => n - (intOf i).toNat)
  case atStart => exact ⟨0, Nat.zero_le _, rfl, hp, World.grownBy.refl _ _⟩
  case round =>
    obtain ⟨k, hk, rfl, hB, hG⟩ := hrel
    have hf0 := hB.free 0
    have hc0 : wr.cell? ⟨g, 0, none⟩ = some (.int .i64 (Pl.mix m (xs.take k))) := hB.cells 0
    have hbd := Pl.mix_bd m (xs.take k) hm
    by_cases hlt : k < n
    · have hsn := Pl.mix_snoc m (xs.take k) (xs.getD k 0)
      rw [← take_snoc xs k (by rw [HL.out]; exact hlt)] at hsn
      obtain ⟨x0, x1⟩ := words_at HR.out k
      obtain ⟨b, off, rfl, hbl, hcell⟩ := (HX.out.only hG HG.out).at (by omega)
      have hck := hcell k hlt
      clear hcell
      generalize xs.getD k 0 = x at *
      generalize Pl.mix m (xs.take k) = y at *
      have HS := Lib.hid hsn
      clear hsn
      obtain ⟨y0, y1⟩ := hbd
      go_wp2
      go_roundw
      case rel => exact ⟨k + 1, by omega, by go_num, by rw [HS.out]; exact hB.put 0 _, only_set hG 0 _⟩
      case measure => simp [intOf]; omega
    · have hrest : xs.take k = xs := List.take_of_length_le (by rw [HL.out]; omega)
      rw [hrest] at hB
      clear hrest hc0
      go_wp2
      go_returns
      exact ⟨rfl, hB, hG⟩
end Go.Proofs.YtbjogkpepfgegaaGreatDoor
namespace Go.Proofs.YtbjogkpepfgegaaGreatDoor
open Go.RowKit
namespace Pl
/-- The score of a server for a flow. -/
def score (seed : Int) (f : Flow) (id : Int) : Int := mix (mix (mix (mix (mix seed [f.kind]) f.client.l) [f.port]) f.dst.l) [f.door, id] / 256
end Pl
theorem ints_sc {n : Nat} (w : World) (cs : Array Value) (t : TypeId) (k : IntKind) (xs : List Int) (m : Nat) (h : cs.toList = xs.map (Value.int k)) (hm : xs.length = m) (hn : w.heap.size = n) : Ints k (w.alloc (.cells cs t)) (some ⟨n, 0, none⟩) m xs := by
  subst hn hm
  exact ints_new w cs t (0, 0) k xs h

set_option maxRecDepth 100000 in
set_option maxHeartbeats 1600000 in
theorem score_ok (seed : Int) (f : Flow) (id : Int) (w : World) (hs : 0 ≤ seed ∧ seed < 2147483648) (hi : 0 ≤ id ∧ id ≤ 65535) (h : f.Ok) :
    Calls Tryz.prog 90 #[.int .i64 seed, f.v, .int .i64 id] w fun e w' => e = .returned (.tuple #[.int .i64 (Pl.score seed f id), .nilIface]) ∧ Ext w w' := by
  have K0 := Blk.new w 50 f.cells
  have l0 := K0.flow
  have E0 : Ext w (w.alloc (.cells f.cells 50)) := (Ext.refl w).alloc _
  have HF := Lib.hid h
  obtain ⟨hk, hc, hd, hp, hdr⟩ := h
  have hkr : words [f.kind] = true := by simp [words]; omega
  have hpr : words [f.port] = true := by simp [words]; omega
  have hdr : words [f.door, id] = true := by simp [words]; omega
  have HKR := Lib.hid hkr
  have HPR := Lib.hid hpr
  have HDR := Lib.hid hdr
  have HC := Lib.hid hc
  have HD := Lib.hid hd
  have HS := Lib.hid hs
  obtain ⟨s0, s1⟩ := hs
  obtain ⟨i0, i1⟩ := hi
  clear hk hc hd hp hdr hkr hpr
  unfold Flow.v
  go_enter Tryz.func90, Tryz.ntmps90
  go_wp2_with ((apply load_by rfl _ _ rfl _ rfl); (focus (with_reducible assumption)))
  refine (bcheck_ok f _ HF.out).mono ?_
  rintro e w1 ⟨rfl, q1⟩
  have k1 := K0.ext q1
  have E1 := E0.trans q1
  obtain ⟨n10, n19, n118⟩ := k1.fnums
  have l1 := k1.lt
  go_wp2_with fail
  clear n10 n19 n118 l1
  refine at_world (fun W => Ext w W ∧ Blk W w.heap.size 50 f.cells ∧ Blk W w1.heap.size 193 #[.int .i64 seed] ∧ Ints .i64 W (some ⟨w1.heap.size + 1, 0, none⟩) 1 [f.kind]) ⟨(E1.alloc _).alloc _, (k1.alloc _).alloc _, (Blk.new _ _ _).alloc _, ints_sc _ _ _ _ _ _ rfl rfl (by simp)⟩ ?_
  rintro W1 ⟨E1, k1, m1, n1⟩
  have M0 := Pl.mix_bd seed [f.kind] HS.out
  have l1 := k1.lt
  have lm := m1.lt
  refine (mix_any w1.heap.size _ seed _ _ _ [f.kind] W1 m1 HS.out n1 HKR.out (fun p hp => by cases hp; show w1.heap.size + 1 ≠ _; omega) (by omega)).mono ?_
  rintro e W2 ⟨rfl, m2, g2⟩
  have k2 := k1.only g2 (by have := q1.size; simp at this; omega)
  have E2 : Ext w W2 := Below.only E1 g2 E1.size (by have := q1.size; simp at this; omega)
  go_wp2_with fail
  have M1 := Pl.mix_bd _ f.client.l M0
  refine (mix_any w1.heap.size _ _ _ _ _ f.client.l W2 m2 M0 k2.ints_client HC.out (fun p hp => by cases hp; show w.heap.size ≠ _; have := q1.size; simp at this; omega) (by omega)).mono ?_
  rintro e W3 ⟨rfl, m3, g3⟩
  have k3 := k2.only g3 (by have := q1.size; simp at this; omega)
  have E3 : Ext w W3 := Below.only E2 g3 E2.size (by have := q1.size; simp at this; omega)
  obtain ⟨n30, n39, n318⟩ := k3.fnums
  have l3 := k3.lt
  go_wp2_with fail
  clear n30 n39 n318 l3
  refine at_world (fun W => Ext w W ∧ Blk W w.heap.size 50 f.cells ∧ Blk W w1.heap.size 193 #[.int .i64 (Pl.mix (Pl.mix seed [f.kind]) f.client.l)] ∧ Ints .i64 W (some ⟨W3.heap.size, 0, none⟩) 1 [f.port] ∧ w1.heap.size < W3.heap.size) ⟨E3.alloc _, k3.alloc _, m3.alloc _, ints_sc _ _ _ _ _ _ rfl rfl rfl, m3.lt⟩ ?_
  rintro W4 ⟨E4, k4, m4, n4, l4⟩
  have M2 := Pl.mix_bd _ [f.port] M1
  refine (mix_any w1.heap.size _ _ _ _ _ [f.port] W4 m4 M1 n4 HPR.out (fun p hp => by cases hp; show W3.heap.size ≠ _; omega) (by omega)).mono ?_
  rintro e W5 ⟨rfl, m5, g5⟩
  have k5 := k4.only g5 (by have := q1.size; simp at this; omega)
  have E5 : Ext w W5 := Below.only E4 g5 E4.size (by have := q1.size; simp at this; omega)
  go_wp2_with fail
  have M3 := Pl.mix_bd _ f.dst.l M2
  refine (mix_any w1.heap.size _ _ _ _ _ f.dst.l W5 m5 M2 k5.ints_dst HD.out (fun p hp => by cases hp; show w.heap.size ≠ _; have := q1.size; simp at this; omega) (by omega)).mono ?_
  rintro e W6 ⟨rfl, m6, g6⟩
  have k6 := k5.only g6 (by have := q1.size; simp at this; omega)
  have E6 : Ext w W6 := Below.only E5 g6 E5.size (by have := q1.size; simp at this; omega)
  obtain ⟨n60, n69, n618⟩ := k6.fnums
  have l6 := k6.lt
  go_wp2_with fail
  clear n60 n69 n618 l6
  refine at_world (fun W => Ext w W ∧ Blk W w1.heap.size 193 #[.int .i64 (Pl.mix (Pl.mix (Pl.mix (Pl.mix seed [f.kind]) f.client.l) [f.port]) f.dst.l)] ∧ Ints .i64 W (some ⟨W6.heap.size, 0, none⟩) 2 [f.door, id] ∧ w1.heap.size < W6.heap.size) ⟨E6.alloc _, m6.alloc _, ints_sc _ _ _ _ _ _ rfl rfl rfl, m6.lt⟩ ?_
  rintro W7 ⟨E7, m7, n7, l7⟩
  obtain ⟨M40, M41⟩ := Pl.mix_bd _ [f.door, id] M3
  refine (mix_any w1.heap.size _ _ _ _ _ [f.door, id] W7 m7 M3 n7 HDR.out (fun p hp => by cases hp; show W6.heap.size ≠ _; omega) (by omega)).mono ?_
  rintro e W8 ⟨rfl, m8, g8⟩
  have E8 : Ext w W8 := Below.only E7 g8 E7.size (by have := q1.size; simp at this; omega)
  have c8 : W8.cell? ⟨w1.heap.size, 0, none⟩ = some (.int .i64 (Pl.mix (Pl.mix (Pl.mix (Pl.mix (Pl.mix seed [f.kind]) f.client.l) [f.port]) f.dst.l) [f.door, id])) := m8.cells 0
  have hsc : Pl.score seed f id = Pl.mix (Pl.mix (Pl.mix (Pl.mix (Pl.mix seed [f.kind]) f.client.l) [f.port]) f.dst.l) [f.door, id] / 256 := rfl
  generalize Pl.mix (Pl.mix (Pl.mix (Pl.mix (Pl.mix seed [f.kind]) f.client.l) [f.port]) f.dst.l) [f.door, id] = z at *
  have HSC := Lib.hid hsc
  clear hsc
  go_wp2_with fail
  go_ret2
  exact ⟨by rw [HSC.out]; rfl, E8⟩

set_option maxRecDepth 100000 in
theorem score_bad (seed : Int) (f : Flow) (id : Int) (w : World) (h : ¬ ((0 ≤ seed ∧ seed < 2147483648) ∧ (0 ≤ id ∧ id ≤ 65535) ∧ f.Ok)) :
    Calls Tryz.prog 90 #[.int .i64 seed, f.v, .int .i64 id] w fun e w' => e = .returned (.tuple #[.int .i64 0, errv 1]) ∧ Ext w w' := by
  have E0 : Ext w (w.alloc (.cells f.cells 50)) := (Ext.refl w).alloc _
  have H := Lib.hid h
  clear h
  unfold Flow.v
  by_cases h1 : 0 ≤ seed
  case neg =>
    go_enter Tryz.func90, Tryz.ntmps90
    go_wp2
    go_ret2
    exact ⟨rfl, E0⟩
  by_cases h2 : seed < 2147483648
  case neg =>
    go_enter Tryz.func90, Tryz.ntmps90
    go_wp2
    go_ret2
    exact ⟨rfl, E0⟩
  by_cases h3 : 0 ≤ id
  case neg =>
    go_enter Tryz.func90, Tryz.ntmps90
    go_wp2
    go_ret2
    exact ⟨rfl, E0⟩
  by_cases h4 : id ≤ 65535
  case neg =>
    go_enter Tryz.func90, Tryz.ntmps90
    go_wp2
    go_ret2
    exact ⟨rfl, E0⟩
  have h5 : ¬ f.Ok := fun h5 => H.out ⟨⟨h1, h2⟩, ⟨h3, h4⟩, h5⟩
  have H5 := Lib.hid h5
  clear h5
  have K0 := Blk.new w 50 f.cells
  have l0 := K0.flow
  go_enter Tryz.func90, Tryz.ntmps90
  go_wp2_with ((apply load_by rfl _ _ rfl _ rfl); (focus (with_reducible assumption)))
  refine (bcheck_bad f _ H5.out).mono ?_
  rintro e w1 ⟨rfl, q1⟩
  unfold errv
  go_wp2_with fail
  go_ret2
  exact ⟨rfl, E0.trans q1⟩
end Go.Proofs.YtbjogkpepfgegaaGreatDoor
namespace Go.Proofs.YtbjogkpepfgegaaGreatDoor
open Go.RowKit
theorem Tryz.sizeInt : ∀ w : World, (sizeOf 3).run Tryz.prog w = .ok 1 w := fun w => by kernel_rfl
/-- As a test of the numbers. -/
def sixEq (s t : Six) : Bool := (List.range 8).all fun i => s.l.getD i 0 == t.l.getD i 0
theorem sixEq_self (s : Six) : sixEq s s = true := by unfold sixEq; simp
theorem sixEq_iff {s t : Six} : sixEq s t = true ↔ s = t := by
  constructor
  · intro h
    obtain ⟨a0, a1, a2, a3, a4, a5, a6, a7⟩ := s
    obtain ⟨b0, b1, b2, b3, b4, b5, b6, b7⟩ := t
    unfold sixEq at h
    simp [List.range, List.range.loop, Six.l] at h
    obtain ⟨rfl, rfl, rfl, rfl, rfl, rfl, rfl, rfl⟩ := h
    rfl
  · rintro rfl
    exact sixEq_self s
theorem run_sixEq (s t : Six) (d : Nat) (w : World) : (Op.equalIn (d + 2) 23 (.agg s.cells) (.agg t.cells)).run Tryz.prog w = .ok (sixEq s t) w := by
  unfold sixEq
  rw [List.range_eq_range', Op.equalIn]
  simp only [Sem.run_bind, run_underlying Tryz.underlying23, Result.andThen_ok, Tryz.sizeInt, Std.Legacy.Range.forIn_eq_forIn_range', Std.Legacy.Range.size, Nat.sub_zero, Nat.add_sub_cancel, Nat.div_one]
  have hl : ∀ i ∈ List.range' 0 8 1, i < 8 := fun i hi => by simpa using (List.mem_range'_1.1 hi).2
  generalize List.range' 0 8 1 = l at hl ⊢
  induction l with
  | nil => simp
  | cons i l ih =>
    have hi : i < 8 := hl i (by simp)
    have px : (part 3 s.cells (i * 1)).run Tryz.prog w = .ok (.int .i64 (s.l.getD i 0)) w := by
      simp [part, isAgg, run_underlying Tryz.underlying3, s.cells_at i hi]
    have py : (part 3 t.cells (i * 1)).run Tryz.prog w = .ok (.int .i64 (t.l.getD i 0)) w := by
      simp [part, isAgg, run_underlying Tryz.underlying3, t.cells_at i hi]
    have pe : (Op.equalIn (d + 1) 3 (.int .i64 (s.l.getD i 0)) (.int .i64 (t.l.getD i 0))).run Tryz.prog w = .ok (s.l.getD i 0 == t.l.getD i 0) w :=
      run_equalIn_int w d 3 .i64 .i64 _ _ Tryz.underlying3
    simp only [List.forIn_cons, Sem.run_bind, px, py, pe, Result.andThen_ok, List.all_cons]
    cases hb : (s.l.getD i 0 == t.l.getD i 0)
    · simp
    · simp only [Bool.not_true, Bool.false_eq_true, if_false, Sem.run_pure, Result.andThen_ok, Bool.true_and]
      exact ih fun j hj => hl j (by simp [hj])
/-- As the walk meets it. -/
theorem six_same (s : Six) (w : World) : (Op.equalIn 10000 23 (.agg s.cells) (.agg s.cells)).run Tryz.prog w = .ok true w := by
  rw [run_sixEq s s 9998 w, sixEq_self]
end Go.Proofs.YtbjogkpepfgegaaGreatDoor
