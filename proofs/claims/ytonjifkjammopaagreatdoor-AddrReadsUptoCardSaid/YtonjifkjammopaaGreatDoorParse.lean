/- addr.Parse of any text. Conditions: as each lemma states them. -/
import Derived.Test.YtonjifkjammopaaGreatDoorNums
import Derived.Test.YtonjifkjammopaaGreatDoorPrint
import Derived.Test.YtonjifkjammopaaGreatDoorParseL
import Derived.Test.YtonjifkjammopaaGreatDoorStore
namespace Go.Proofs.YtonjifkjammopaaGreatDoor
open Go.Shelf Go.RowKit
/-- strings.Cut at two colons. -/
theorem cut_any (t sep : ByteArray) (w : World) (T : Tabs w) (hs : t.size < 4294967281) :
    Calls Tryz.prog 27 #[.string t, .string sep] w fun e w' => e = .returned (.tuple #[.string (txtB (Lib.cut t.data.toList sep.data.toList).1), .string (txtB (Lib.cut t.data.toList sep.data.toList).2.1), .bool (Lib.cut t.data.toList sep.data.toList).2.2]) ∧ Ext w w' := by
  obtain ⟨m, hm⟩ := T.ml
  refine (Any.strings_Cut laysCut t sep m w hs hm).mono ?_
  rintro e w' ⟨rfl, n, rfl⟩
  exact ⟨rfl, (Ext.refl w).drewN n⟩
theorem cut_size (t sep : List UInt8) : (Lib.cut t sep).1.length ≤ t.length ∧ (Lib.cut t sep).2.1.length ≤ t.length := by
  unfold Lib.cut
  split
  · simp; omega
  · simp
theorem txtB_size (l : List UInt8) : (txtB l).size = l.length := by
  show l.toArray.size = _
  rw [List.size_toArray]
theorem txtB_list (l : List UInt8) : (txtB l).data.toList = l := rfl
theorem txtB_data (t : ByteArray) : txtB t.data.toList = t := by
  cases t
  rfl
/-- Copy of numbers into an array's block. -/
theorem copyI (w : World) (g off : Nat) (cur : List Int) (t : TypeId) (hg : Blk w g t (cur.map (Value.int .i64)).toArray) (dp : Option Addr) (dLen dCap : Nat)
    (sp : Option Addr) (m sc : Nat) (ys : List Int) (hr : Ints .i64 w sp m ys) (hm : m ≤ dLen) (hdp : 0 < m → dp = some ⟨g, off, none⟩) (hlo : off + m ≤ cur.length) :
    ∃ w', (Builtin.copy_ #[56, 56] 3 #[.slice dp dLen dCap, .slice sp m sc]).run Tryz.prog w = .ok (.int .i64 (m : Int)) w' ∧
      Blk w' g t ((cur.take off ++ (ys ++ cur.drop (off + m))).map (Value.int .i64)).toArray ∧ w.grownBy w' (some g) := by
  have hl : (ys.map (Value.int .i64)).length = m := by rw [List.length_map, hr.len]
  rcases Nat.eq_zero_or_pos m with hm0 | hm0
  · subst hm0
    obtain rfl : ys = [] := List.length_eq_zero_iff.1 hr.len
    refine ⟨w, run_copy_none (P := Tryz.prog) w 56 56 3 3 dp sp dLen dCap 0 sc Tryz.underlying56 (by kernel_rfl) (by show min 0 dLen = 0; omega), ?_, ⟨rfl, rfl, rfl, Nat.le_refl _, fun _ _ _ => rfl⟩⟩
    simpa using hg
  · obtain ⟨b, of', rfl, _, hc⟩ := hr.at hm0
    obtain rfl := hdp hm0
    have := run_copy_row (P := Tryz.prog) w 56 56 3 3 g off dLen dCap ⟨b, of', none⟩ m sc _ t (ys.map (Value.int .i64)) Tryz.underlying56 (by kernel_rfl) hg (by rw [hl]; show m = min m dLen; omega) (fun j v hj => by
      have hlt : j < m := by have := (List.getElem?_eq_some_iff.1 hj).1; omega
      have hlt' : j < ys.length := by rw [hr.len]; exact hlt
      rw [List.getElem?_map, List.getElem?_eq_getElem hlt'] at hj
      simp only [Option.map_some, Option.some.injEq] at hj
      rw [← hj, Addr.add_lit, hc j hlt]
      simp [List.getD, hlt']) (by rw [hl]; simpa using hlo) (fun v hv => by
      obtain ⟨x, _, rfl⟩ := List.mem_map.1 hv
      rfl)
    rw [hl] at this
    refine ⟨_, this, ?_, ⟨rfl, rfl, rfl, by simp, fun i hi hne => setRow_other w g i _ (fun e => hne (by rw [e]))⟩⟩
    have := setRow_heap w g _ ((cur.map (Value.int .i64)).toArray.toList.take off ++ ys.map (Value.int .i64) ++ (cur.map (Value.int .i64)).toArray.toList.drop (off + m)).toArray t _ hg
    unfold Blk
    rw [this]
    simp [List.map_take, List.map_drop]
theorem numsT_len (t : List UInt8) : (Pl.numsT t).length ≤ t.length + 1 := by
  unfold Pl.numsT
  split
  · simp
  · rw [List.length_map]
    have h1 := wordsB_data (txtB t) ⟨#[58]⟩
    rw [txtB_list] at h1
    have h2 := wordsB_len (txtB t) ⟨#[58]⟩ (by decide)
    have h3 := Lib.countB_le ⟨#[58]⟩ (by decide) (txtB t).size (txtB t) (Nat.le_refl _)
    rw [txtB_size] at h3
    have h4 : (Lib.split t [58]).length = (wordsB (txtB t) ⟨#[58]⟩).length := by
      have := congrArg List.length h1
      rw [List.length_map] at this
      exact this.symm
    omega
theorem laid8 (h m : List Nat) (hle : h.length + m.length ≤ 8) :
    (((([0, 0, 0, 0, 0, 0, 0, 0] : List Int).take 0 ++ (h.map (fun n : Nat => (n : Int)) ++ ([0, 0, 0, 0, 0, 0, 0, 0] : List Int).drop (0 + h.length))).take (8 - m.length) ++ (m.map (fun n : Nat => (n : Int)) ++ (([0, 0, 0, 0, 0, 0, 0, 0] : List Int).take 0 ++ (h.map (fun n : Nat => (n : Int)) ++ ([0, 0, 0, 0, 0, 0, 0, 0] : List Int).drop (0 + h.length))).drop (8 - m.length + m.length))).map (Value.int .i64)) =
      (h ++ List.replicate (8 - h.length - m.length) 0 ++ m).map fun n : Nat => Value.int .i64 (n : Int) := by
  have ez : ([0, 0, 0, 0, 0, 0, 0, 0] : List Int) = List.replicate 8 0 := rfl
  rw [ez, List.take_zero, List.nil_append, Nat.zero_add, List.drop_replicate, List.take_append, List.length_map, List.take_of_length_le (by rw [List.length_map]; omega), List.take_replicate,
    List.drop_of_length_le (by simp; omega), show min (8 - m.length - h.length) (8 - h.length) = 8 - h.length - m.length by omega]
  simp [Function.comp_def]
def zSix : Six := ⟨0, 0, 0, 0, 0, 0, 0, 0⟩
/-- What a text's parse hands back. -/
def PG (t : List UInt8) (e : Ending) : Prop :=
  (∃ s, parsed t = some s ∧ e = .returned (.tuple #[s.v, .nilIface])) ∨ (parsed t = none ∧ e = .returned (.tuple #[zSix.v, errv 5]))
theorem neq_yes (a b : ByteArray) (h : a ≠ b) : (a.toList == b.toList) = false := by
  rw [beq_eq_false_iff_ne, ByteArray.toList_eq, ByteArray.toList_eq]
  intro e
  have := Array.ext' e
  cases a; cases b; cases this
  exact h rfl
set_option maxRecDepth 100000 in
set_option maxHeartbeats 1000000 in
theorem parse_long (t : ByteArray) (w : World) (hs : 39 < t.size) : Calls Tryz.prog 14 #[.string t] w fun e w' => PG t.data.toList e ∧ Ext w w' := by
  have hp : parsed t.data.toList = none := by
    unfold parsed
    rw [if_neg (by rw [← Lib.size_eq]; omega)]
  have HP := Lib.hid hp
  have KR := Blk.new w 23 zc6
  have st := KR.store (ty := 23) (cs := zSix.cells) rfl Tryz.size6 (by simp [Six.cells, zSix, Value.oneCell'])
  have KF := KR.row zSix.cells
  have E0 : Ext w _ := ((Ext.refl w).alloc (.cells zc6 23)).row (k := w.heap.size) (Nat.le_refl _) zSix.cells
  have hs' : (39 : Int) < (t.size : Int) := by omega
  clear hp KR
  go_enter Tryz.func14, Tryz.ntmps14
  go_wp2_with ((apply store_by rfl _ _ _ rfl _ rfl); (focus (with_reducible assumption)); (focus rfl))
  refine bodyPost_ret (results_cell2 Tryz.results14 _ _ w.heap.size 23 zSix.cells _ rfl KF Tryz.underlying23 rfl Tryz.size6) rfl ⟨.inr ⟨HP.out, rfl⟩, E0⟩
set_option maxRecDepth 100000 in
set_option maxHeartbeats 2000000 in
theorem parse_short (t : ByteArray) (w : World) (T : Tabs w) (hs : t.size ≤ 39) : Calls Tryz.prog 14 #[.string t] w fun e w' => PG t.data.toList e ∧ Ext w w' := by
  obtain ⟨H, hH⟩ : ∃ H, H = (Lib.cut t.data.toList [58, 58]).1 := ⟨_, rfl⟩
  obtain ⟨M, hM⟩ : ∃ M, M = (Lib.cut t.data.toList [58, 58]).2.1 := ⟨_, rfl⟩
  obtain ⟨hzH, hzM⟩ := cut_size t.data.toList [58, 58]
  rw [← hH] at hzH
  rw [← hM] at hzM
  rw [← Lib.size_eq] at hzH hzM
  have hp : parsed t.data.toList = if (Pl.numsT H).length + (Pl.numsT M).length ≤ 8 then
      (if Pl.textL (Pl.numsT H ++ List.replicate (8 - (Pl.numsT H).length - (Pl.numsT M).length) 0 ++ Pl.numsT M) = t.data.toList then some (sixOf (Pl.numsT H ++ List.replicate (8 - (Pl.numsT H).length - (Pl.numsT M).length) 0 ++ Pl.numsT M)) else none) else none := by
    unfold parsed Pl.readL
    rw [if_pos (by rw [← Lib.size_eq]; exact hs), ← hH, ← hM]
    by_cases h : (Pl.numsT H).length + (Pl.numsT M).length ≤ 8
    · rw [if_pos h, if_pos h]
    · rw [if_neg h, if_neg h]
  have HP := Lib.hid hp
  have HT := Lib.hid T
  have hle1 := numsT_le H
  have hle2 := numsT_le M
  have HC := fun (W : World) (TW : Tabs W) => cut_any t ⟨#[58, 58]⟩ W TW (by omega)
  have HC' := Lib.hid HC
  have HH := Lib.hid (And.intro hH hM)
  have KR := (Blk.new w 23 zc6).alloc (.cells zc6 23)
  have KA := Blk.at (n := w.heap.size + 1) (w.alloc (.cells zc6 23)) 23 zc6 (by simp)
  have E0 := ((Ext.refl w).alloc (.cells zc6 23)).alloc (.cells zc6 23)
  have hs' : ¬ (39 : Int) < (t.size : Int) := by omega
  clear hp T HC hH hM
  go_enter Tryz.func14, Tryz.ntmps14
  go_wp2_with fail
  refine (HC'.out _ (HT.out.ext E0)).mono ?_
  rintro e W1 ⟨rfl, q1⟩
  rw [← HH.out.1, ← HH.out.2]
  generalize (Lib.cut t.data.toList [58, 58]).2.2 = bb
  have E1 := E0.trans q1
  have E1s := Lib.hid (show w.heap.size + 2 ≤ W1.heap.size by have := q1.size; simpa using this)
  have KR1 := KR.ext q1
  have KA1 := KA.ext q1
  clear KR KA E0 q1 HC'
  go_wp2_with fail
  refine (nums_any (txtB H) W1 (HT.out.ext E1) (by rw [txtB_size]; omega)).mono ?_
  rintro e W2 ⟨v2, rfl, o2, q2⟩
  rw [txtB_list] at o2
  have E2s := Lib.hid (Nat.le_trans E1s.out q2.size)
  have E2 := E1.trans q2
  have KR2 := KR1.ext q2
  have KA2 := KA1.ext q2
  clear KR1 KA1 E1 q2
  have HO2 := Lib.hid o2
  clear o2
  go_wp2_with fail
  refine (nums_any (txtB M) W2 (HT.out.ext E2) (by rw [txtB_size]; omega)).mono ?_
  rintro e W3 ⟨v3, rfl, o3, q3⟩
  rw [txtB_list] at o3
  have o2 := HO2.out.ext q3
  obtain ⟨a2, n2, c2, rfl, hnc2, r2⟩ := o2.read
  obtain ⟨a3, c3, rfl, hnc3, r3, _, b3⟩ := o3.open
  have hl2 : (Pl.numsT H).length = n2 := by have := r2.1; rwa [List.length_map] at this
  have hl3 : (Pl.numsT M).length = (List.map (fun n : Nat => (n : Int)) (Pl.numsT M)).length := by rw [List.length_map]
  generalize hn3 : (List.map (fun n : Nat => (n : Int)) (Pl.numsT M)).length = n3 at *
  have E3 := E2.trans q3
  have KR3 := KR2.ext q3
  have KA3 := KA2.ext q3
  have HR2 := Lib.hid r2.ints
  have HR3 := Lib.hid r3.ints
  have hz3 := KR3.lt
  have hzA := KA3.lt
  have hb2 := numsT_len H
  have hb3 := numsT_len M
  have hw1 : IntKind.i64.wrap ((n2 : Int) + (n3 : Int)) = (n2 : Int) + (n3 : Int) := IntWalk.i64_in _ (by omega)
  by_cases hle : n2 + n3 ≤ 8
  case neg =>
    have hle' : (8 : Int) < (n2 : Int) + (n3 : Int) := by omega
    have hp3 : parsed t.data.toList = none := by rw [HP.out, if_neg (by omega)]
    have st := KR3.store (ty := 23) (cs := zSix.cells) rfl Tryz.size6 (by simp [Six.cells, zSix, Value.oneCell'])
    have KF := KR3.row zSix.cells
    have E7 := E3.row (k := w.heap.size) (Nat.le_refl _) zSix.cells
    have HF := Lib.hid hp3
    clear hp3 KR3 KA3 E3 r2 r3 b3 o2 o3
    go_wp2_with ((apply store_by rfl _ _ _ rfl _ rfl); (focus (with_reducible assumption)); (focus rfl))
    refine bodyPost_ret (results_cell2 Tryz.results14 _ _ w.heap.size 23 zSix.cells _ rfl KF Tryz.underlying23 rfl Tryz.size6) rfl ⟨.inr ⟨HF.out, rfl⟩, E7⟩
  have hle' : ¬ (8 : Int) < (n2 : Int) + (n3 : Int) := by omega
  have hsl := fun W => six_whole W (w.heap.size + 1)
  go_upto_region 8 with (fail)
  obtain ⟨W4, hcp, K4, g4⟩ := copyI W3 (w.heap.size + 1) 0 [0, 0, 0, 0, 0, 0, 0, 0] 23 KA3 (some ⟨w.heap.size + 1, 0, none⟩) 8 8 a2 n2 c2 _ HR2.out (by omega) (fun _ => rfl) (by simp; omega)
  have hne3 : ∀ p, a3 = some p → p.block ≠ w.heap.size + 1 := fun p hp => by
    have := (b3 p hp).1
    have := E2s.out
    omega
  have r34 := r3.only g4 hne3
  have KR4 : Blk W4 w.heap.size 23 zc6 := (g4.block w.heap.size KR3.lt (by simp)).trans KR3
  have E4 : Ext w W4 := ⟨g4.os.trans E3.os, g4.tape.trans E3.tape, g4.output.trans E3.output, Nat.le_trans E3.size g4.size, fun i hi => (g4.block i (Nat.lt_of_lt_of_le hi E3.size) (fun e => by cases e; omega)).trans (E3.block i hi)⟩
  have hsl2 : ∀ W, (Instr.sliceAt 23 (.pointer (some ⟨w.heap.size + 1, 0, none⟩)) (some (.int .i64 (8 - (n3 : Int)))) none none).run Tryz.prog W = .ok (.slice (some (tailAt (w.heap.size + 1) (8 - n3))) n3 n3) W := fun W => by
    have := six_tail W (w.heap.size + 1) (8 - n3) (by omega)
    rw [show (((8 - n3 : Nat) : Int)) = 8 - (n3 : Int) by omega, show 8 - (8 - n3) = n3 by omega] at this
    exact this
  have hw2 : IntKind.i64.wrap (8 - (n3 : Int)) = 8 - (n3 : Int) := IntWalk.i64_in _ (by omega)
  obtain ⟨W5, hcp2, K5, g5⟩ := copyI W4 (w.heap.size + 1) (8 - n3) _ 23 K4 (some (tailAt (w.heap.size + 1) (8 - n3))) n3 n3 a3 n3 c3 _ r34.ints (Nat.le_refl _) (fun h => by unfold tailAt; rw [if_neg (by omega)]) (by simp [hl2]; omega)
  have KR5 : Blk W5 w.heap.size 23 zc6 := (g5.block w.heap.size KR4.lt (by simp)).trans KR4
  have E5 : Ext w W5 := ⟨g5.os.trans E4.os, g5.tape.trans E4.tape, g5.output.trans E4.output, Nat.le_trans E4.size g5.size, fun i hi => (g5.block i (Nat.lt_of_lt_of_le hi E4.size) (fun e => by cases e; omega)).trans (E4.block i hi)⟩
  obtain ⟨L, hL⟩ : ∃ L, L = Pl.numsT H ++ List.replicate (8 - (Pl.numsT H).length - (Pl.numsT M).length) 0 ++ Pl.numsT M := ⟨_, rfl⟩
  have hL8 : L.length = 8 := by rw [hL]; simp; omega
  have hLle : ∀ u ∈ L, u ≤ 65535 := fun u hu => by
    rw [hL] at hu
    simp only [List.mem_append, List.mem_replicate] at hu
    rcases hu with (hu | ⟨_, rfl⟩) | hu
    · exact hle1 u hu
    · omega
    · exact hle2 u hu
  have K5 : Blk W5 (w.heap.size + 1) 23 (sixOf L).cells := by
    have e := laid8 (Pl.numsT H) (Pl.numsT M) (by omega)
    rw [← hL] at e
    rw [hl2, hl3] at e
    rw [e, ← sixOf_cells hL8] at K5
    simpa using K5
  have hp2 := HP.out
  rw [if_pos (by omega), ← hL] at hp2
  have HP2 := Lib.hid hp2
  have hok := sixOf_ok hL8 hLle
  have hnl := sixOf_nl hL8
  have ld := K5.six0
  have HPR := Lib.hid (print_yes (sixOf L) W5 (HT.out.ext E5) hok)
  have HNL := Lib.hid hnl
  have HE5 := Lib.hid E5
  have HK5 := Lib.hid K5
  have HKR := Lib.hid KR5
  clear KA3 KR3 E3 r2 r3 b3 o2 o3 r34 g4 g5 KR4 E4 K4 hp2 hok hnl hL hle1 hle2 hLle K5 KR5 E5 HP HR2 HR3 HO2 hne3
  go_wp2_with ((apply load_by rfl _ _ rfl _ rfl); (focus (with_reducible assumption)))
  refine HPR.out.mono ?_
  rintro e W6 ⟨rfl, q6⟩
  rw [HNL.out]
  have KR6 := HKR.out.ext q6
  have K6 := HK5.out.ext q6
  have E6 := HE5.out.trans q6
  by_cases htx : Pl.textL L = t.data.toList
  case pos =>
    have hp3 : parsed t.data.toList = some (sixOf L) := by rw [HP2.out, if_pos htx]
    have hT : txtB (Pl.textL L) = t := by rw [htx, txtB_data]
    rw [hT]
    have st := KR6.store (ty := 23) (cs := (sixOf L).cells) rfl Tryz.size6 (by simp [Six.cells, Value.oneCell'])
    have ld := K6.six0
    have KF := KR6.row (sixOf L).cells
    have E7 := E6.row (k := w.heap.size) (Nat.le_refl _) (sixOf L).cells
    have HF := Lib.hid hp3
    clear hp3 hT K6 KR6 q6 E6 htx
    go_wp2_with (first | ((apply load_by rfl _ _ rfl _ rfl); (focus (with_reducible assumption))) | ((apply store_by rfl _ _ _ rfl _ rfl); (focus (with_reducible assumption)); (focus rfl)))
    refine bodyPost_ret (results_cell2 Tryz.results14 _ _ w.heap.size 23 (sixOf L).cells _ rfl KF Tryz.underlying23 rfl Tryz.size6) rfl ⟨.inl ⟨_, HF.out, rfl⟩, E7⟩
  have hp3 : parsed t.data.toList = none := by rw [HP2.out, if_neg htx]
  have hne : ((txtB (Pl.textL L)).toList == t.toList) = false := neq_yes _ _ (fun e => htx (by rw [← e]; rfl))
  have st := KR6.store (ty := 23) (cs := zSix.cells) rfl Tryz.size6 (by simp [Six.cells, zSix, Value.oneCell'])
  have KF := KR6.row zSix.cells
  have E7 := E6.row (k := w.heap.size) (Nat.le_refl _) zSix.cells
  have HF := Lib.hid hp3
  generalize txtB (Pl.textL L) = u at hne ⊢
  clear hp3 K6 KR6 q6 E6 htx
  go_wp2_with ((apply store_by rfl _ _ _ rfl _ rfl); (focus (with_reducible assumption)); (focus rfl))
  refine bodyPost_ret (results_cell2 Tryz.results14 _ _ w.heap.size 23 zSix.cells _ rfl KF Tryz.underlying23 rfl Tryz.size6) rfl ⟨.inr ⟨HF.out, rfl⟩, E7⟩
theorem parse_any (t : ByteArray) (w : World) (T : Tabs w) : Calls Tryz.prog 14 #[.string t] w fun e w' => PG t.data.toList e ∧ Ext w w' := by
  by_cases hs : t.size ≤ 39
  · exact parse_short t w T hs
  · exact parse_long t w (by omega)
end Go.Proofs.YtonjifkjammopaaGreatDoor
