/- Lemmas of this seat, bound together: SegL Bind0 Gate0 MapR. Conditions: as each lemma states them. -/
import Derived.Test.YtbjogkpepfgegaaGreatDoorK20
import Derived.Test.YtbjogkpepfgegaaGreatDoorK22
import Derived.Test.YtbjogkpepfgegaaGreatDoorK06
import Derived.Deep.DeepCutAuto
import Derived.Maps.RangeWalk
import Derived.Test.YtbjogkpepfgegaaGreatDoorK18
import Derived.Maps.RangeRun
namespace Go.Proofs.YtbjogkpepfgegaaGreatDoor
namespace Pl
theorem segBytes_drop {s : Sg} {c : Int} {xs : List Int} (h : s.kind = 6 ∨ s.kind = 17) : (segBytes s c xs).drop (segSize s.kind) = xs := by
  unfold segBytes segWords segSize
  rcases h with h | h <;> rw [h] <;> rfl
theorem segBytes_at {s : Sg} {c : Int} {xs : List Int} (h : s.kind = 6 ∨ s.kind = 17) : at2 (segBytes s c xs) (segAt s.kind) = c := by
  have e : c / 256 * 256 + c % 256 = c := by omega
  unfold segBytes segWords segAt at2
  rcases h with h | h <;> rw [h] <;> exact e
theorem segBytes_is {s : Sg} {c : Int} {xs : List Int} (h : SegOk s xs.length) : IsSeg s.kind (segBytes s c xs) := by
  have hk := h.1
  have hl := segBytes_length (c := c) (xs := xs) hk
  obtain ⟨_, _, _, _, _, ⟨f0, f1⟩, _, _, hn⟩ := h
  refine ⟨by omega, fun hk6 => ?_, fun hk17 => ?_⟩
  · unfold segBytes segWords
    rw [hk6, if_neg (by decide)]
    have e1 : (20480 + s.flags) / 256 = 80 := by omega
    have e2 : (20480 + s.flags) % 256 ≤ 31 := by omega
    exact ⟨e1, e2, rfl, rfl⟩
  · have e : (8 + (xs.length : Int)) / 256 * 256 + (8 + (xs.length : Int)) % 256 = ((segBytes s c xs).length : Int) := by
      rw [hl, hk17, show segSize 17 = 8 from rfl]; omega
    rw [← e]
    unfold segBytes segWords at2
    rw [hk17]
    rfl
theorem segBytes_dec {s : Sg} {c : Int} {xs : List Int} (h : SegOk s xs.length) : decSeg s.kind (segBytes s c xs) = s := by
  unfold SegOk Word at h
  obtain ⟨k, f, t, q, a, fl, w⟩ := s
  dsimp only at h ⊢
  obtain ⟨rfl | rfl, hf, ht, hq, ha, hfl, hw, hz, hn⟩ := h
  · show (⟨6, f / 256 * 256 + f % 256, t / 256 * 256 + t % 256, (q / 65536 / 256 * 256 + q / 65536 % 256) * 65536 + (q % 65536 / 256 * 256 + q % 65536 % 256), (a / 65536 / 256 * 256 + a / 65536 % 256) * 65536 + (a % 65536 / 256 * 256 + a % 65536 % 256), (20480 + fl) % 256 % 32, w / 256 * 256 + w % 256⟩ : Sg) = _
    have e1 : f / 256 * 256 + f % 256 = f := by omega
    have e2 : t / 256 * 256 + t % 256 = t := by omega
    have e3 : (q / 65536 / 256 * 256 + q / 65536 % 256) * 65536 + (q % 65536 / 256 * 256 + q % 65536 % 256) = q := by omega
    have e4 : (a / 65536 / 256 * 256 + a / 65536 % 256) * 65536 + (a % 65536 / 256 * 256 + a % 65536 % 256) = a := by omega
    have e5 : (20480 + fl) % 256 % 32 = fl := by omega
    have e6 : w / 256 * 256 + w % 256 = w := by omega
    rw [e1, e2, e3, e4, e5, e6]
  · show (⟨17, f / 256 * 256 + f % 256, t / 256 * 256 + t % 256, 0, 0, 0, 0⟩ : Sg) = _
    have e1 : f / 256 * 256 + f % 256 = f := by omega
    have e2 : t / 256 * 256 + t % 256 = t := by omega
    obtain ⟨rfl, rfl, rfl, rfl⟩ := hz rfl
    rw [e1, e2]
theorem segQ_enc {s : Sg} {over : Int} {xs : List Int} (h : SegOk s xs.length) (ho : Word over) : segQ s.kind (segBytes s (segCheck s over xs) xs) over = 0 := by
  have hk := h.1
  unfold segQ
  rw [if_neg (by rintro (h1 | h1); exact h1 hk; exact h1 ho), if_neg (fun hn => hn (segBytes_is h)), segBytes_at hk, segBytes_drop hk, segBytes_dec h, if_pos rfl]

theorem fold_over {over : Int} (h : Word over) {r : Int} (hr : 0 ≤ r) : fold (over + fold r) = fold (over + r) := by
  have e := fold_add (a := over) (b := r) h.1 hr
  rwa [fold_small h.1 h.2] at e
theorem fold_over' {over : Int} (h : Word over) {r : Int} (hr : 0 ≤ r) : fold (fold r + over) = fold (r + over) := by
  rw [Int.add_comm, fold_over h hr, Int.add_comm]
/-- All together is 65535. -/
theorem seg_all {s : Sg} {over : Int} {xs : List Int} (hk : SegOk s xs.length) (hx : IsB xs) (ho : Word over) : fold (fold (raw 0 (segBytes s (segCheck s over xs) xs)) + over) = 65535 := by
  have h0 := (raw_bd (segBytes_isB (c := 0) hk (by decide) hx) 0).1
  have hc := segCheck_bd s over xs
  rw [raw_seg]
  generalize hR : raw 0 (segBytes s 0 xs) = R at *
  have hS : segSum s over xs = 65535 - fold (over + R) := by
    unfold segSum
    rw [hR, fold_over ho h0]
  rw [fold_over' ho (by omega)]
  have h1 := ho.1
  unfold segCheck
  split
  case isTrue h =>
    have h2 : fold (over + R) = 65535 := by omega
    have h3 : over + R ≠ 0 := fun h => by rw [h] at h2; cases h2
    rw [← h2]
    refine fold_congr (k := 1) (by omega) h3 ?_
    omega
  case isFalse h =>
    rw [hS, show R + (65535 - fold (over + R)) + over = (over + R) + (65535 - fold (over + R)) by omega]
    exact fold_check (by omega)
/-- Of another one over it the check is another one. -/
theorem seg_other {s : Sg} {over other : Int} {xs : List Int} (hk : SegOk s xs.length) (hx : IsB xs) (h0 : 0 ≤ over ∧ over < 65535) (h1 : 0 ≤ other ∧ other < 65535) (hne : other ≠ over) : segCheck s over xs ≠ segCheck s other xs := by
  have hR := (raw_bd (segBytes_isB (c := 0) hk (by decide) hx) 0).1
  have key : ∀ o, 0 ≤ o → o < 65535 → ∃ k, segCheck s o xs = 65535 - (o + raw 0 (segBytes s 0 xs)) + 65535 * k := fun o o0 o1 => by
    obtain ⟨k, hk⟩ := fold_eq (o + raw 0 (segBytes s 0 xs))
    have hS : segSum s o xs = 65535 - fold (o + raw 0 (segBytes s 0 xs)) := by
      unfold segSum
      rw [fold_over ⟨o0, by omega⟩ hR]
    unfold segCheck
    split
    · exact ⟨-k + 1, by omega⟩
    · exact ⟨-k, by omega⟩
  obtain ⟨k1, e1⟩ := key over h0.1 h0.2
  obtain ⟨k2, e2⟩ := key other h1.1 h1.2
  intro h
  omega
/-- One byte is another one: it sums up to something else. -/
theorem flip_sum {xs : List Int} {over y : Int} {j : Nat} (hx : IsB xs) (ho : Word over) (hj : j < xs.length) (hy : 0 ≤ y ∧ y ≤ 255) (hne : y ≠ xs.getD j 0) (h : fold (fold (raw 0 xs) + over) = 65535) (h2 : fold (fold (raw 0 (xs.set j y)) + over) = 65535) : False := by
  have hb := hx.getD j
  have r0 := (raw_bd hx 0).1
  have r1 := (raw_bd (hx.set j hy.1 hy.2) 0).1
  have e := raw_set xs y 0 j hj
  rw [fold_over' ho r0] at h
  rw [fold_over' ho r1] at h2
  obtain ⟨k1, e1⟩ := fold_eq (raw 0 xs + over)
  obtain ⟨k2, e2⟩ := fold_eq (raw 0 (xs.set j y) + over)
  split at e <;> omega
theorem segQ_zero {k : Int} {xs : List Int} {over : Int} (hb : IsB xs) (h : segQ k xs over = 0) : (k = 6 ∨ k = 17) ∧ Word over ∧ IsSeg k xs ∧ segBytes (decSeg k xs) (segCheck (decSeg k xs) over (xs.drop (segSize k))) (xs.drop (segSize k)) = xs ∧ SegOk (decSeg k xs) (xs.drop (segSize k)).length := by
  unfold segQ at h
  split at h
  · cases h
  rename_i h0
  have hk : k = 6 ∨ k = 17 := Decidable.byContradiction fun hn => h0 (.inl hn)
  have ho : Word over := Decidable.byContradiction fun hn => h0 (.inr hn)
  split at h
  · cases h
  rename_i h1
  have hi : IsSeg k xs := Decidable.byContradiction h1
  split at h
  · rename_i h2
    refine ⟨hk, ho, hi, ?_, decSeg_ok hk hb ?_⟩
    · rw [← h2]; exact dec_enc hk hb hi
    · have := hi.1.2
      rw [List.length_drop]
      omega
  · cases h
theorem segQ_flip {k : Int} {xs : List Int} {over y : Int} {j : Nat} (hx : IsB xs) (ho : Word over) (hj : j < xs.length) (hy : 0 ≤ y ∧ y ≤ 255) (hne : y ≠ xs.getD j 0) (h : fold (fold (raw 0 xs) + over) = 65535) : segQ k (xs.set j y) over ≠ 0 := by
  intro hq
  have hb := hx.set j hy.1 hy.2
  obtain ⟨hk, _, hi, he, hok⟩ := segQ_zero hb hq
  have ha := seg_all hok (hb.drop _) ho
  rw [he] at ha
  exact flip_sum hx ho hj hy hne h ha
end Pl
end Go.Proofs.YtbjogkpepfgegaaGreatDoor
namespace Go.Proofs.YtbjogkpepfgegaaGreatDoor
open Go.RowKit
set_option maxRecDepth 100000 in
theorem len64_zero (w : World) : Calls Tryz.prog 123 #[.int .u64 0] w fun e w' => e = .returned (.int .i64 0) ∧ w' = w := by
  go_enter Tryz.func123, Tryz.ntmps123
  go_wp2
  go_returns
  exact ⟨ret_int (by decide +kernel), rfl⟩
set_option maxRecDepth 100000 in
theorem len_zero (w : World) : Calls Tryz.prog 110 #[.int .u64 0] w fun e w' => e = .returned (.int .i64 0) ∧ w' = w := by
  go_enter Tryz.func110, Tryz.ntmps110
  go_wp2_with fail
  refine (len64_zero w).mono ?_
  rintro e w' ⟨rfl, rfl⟩
  go_wp2_with fail
  go_returns
  exact ⟨rfl, rfl⟩
set_option maxRecDepth 100000 in
theorem isort_zero (f : Value) (w : World) : Calls Tryz.prog 114 #[.slice none 0 0, .int .i64 0, .int .i64 0, f] w fun e w' => e = .returned (.tuple #[]) ∧ w' = w := by
  go_enter Tryz.func114, Tryz.ntmps114
  go_wp2
  go_loop [8] (fun i => i = .int .i64 1) (fun _ => 0)
  case atStart => rfl
  case round =>
    obtain rfl := hrel
    go_wp2
    go_returns
    exact ⟨rfl, rfl⟩
set_option maxRecDepth 100000 in
theorem pdq_zero (f : Value) (w : World) : Calls Tryz.prog 109 #[.slice none 0 0, .int .i64 0, .int .i64 0, .int .i64 0, f] w fun e w' => e = .returned (.tuple #[]) ∧ w' = w := by
  go_enter Tryz.func109, Tryz.ntmps109
  go_wp2_with fail
  go_loop [1, 2, 3] (fun a b c => a = .int .i64 0 ∧ b = .int .i64 0 ∧ c = .int .i64 0) (fun _ _ _ => 0)
  case atStart => exact ⟨rfl, rfl, rfl⟩
  case round =>
    obtain ⟨rfl, rfl, rfl⟩ := hrel
    go_wp2_with fail
    refine (isort_zero f w).mono ?_
    rintro e w' ⟨rfl, rfl⟩
    go_wp2_with fail
    go_returns
    exact ⟨rfl, rfl⟩
set_option maxRecDepth 100000 in
theorem sort_zero (f : Value) (w : World) : Calls Tryz.prog 97 #[.slice none 0 0, f] w fun e w' => e = .returned (.tuple #[]) ∧ w' = w := by
  go_enter Tryz.func97, Tryz.ntmps97
  go_wp2_with fail
  refine (len_zero w).mono ?_
  rintro e w' ⟨rfl, rfl⟩
  go_wp2_with fail
  refine (pdq_zero f _).mono ?_
  rintro e w' ⟨rfl, rfl⟩
  go_wp2_with fail
  go_returns
  exact ⟨rfl, rfl⟩
set_option maxRecDepth 100000 in
theorem sorted_zero (w : World) : Calls Tryz.prog 81 #[.slice none 0 0] w fun e w' => e = .returned (.slice none 0 0) ∧ w' = w := by
  go_enter Tryz.func81, Tryz.ntmps81
  go_wp2_with fail
  refine (sort_zero _ w).mono ?_
  rintro e w' ⟨rfl, rfl⟩
  go_wp2_with fail
  go_returns
  exact ⟨rfl, rfl⟩
/-- A table of which nothing is bound. -/
structure Tab0 (w : World) (gT gP gB gF gN : Nat) (n : Nat) : Prop where
  ptr : Blk w gT 117 #[.pointer (some ⟨gP, 0, none⟩), .map (some gF), .map (some gN)]
  prt : Prt w gP gB (PS.zero n)
  flows : w.heap[gF]? = some (.map #[] 0)
  nears : w.heap[gN]? = some (.map #[] 0)
set_option maxRecDepth 100000 in
set_option maxHeartbeats 1000000 in
theorem bnew_ok (n : Nat) (w : World) (h0 : 1 ≤ n) (h1 : n ≤ 16) :
    Calls Tryz.prog 20 #[.int .i64 (n : Int)] w fun e w' => ∃ gT gP gB gF gN, e = .returned (.tuple #[.pointer (some ⟨gT, 0, none⟩), .nilIface]) ∧ Tab0 w' gT gP gB gF gN n ∧ Ext w w' ∧ w.heap.size ≤ gT ∧ w.heap.size ≤ gP ∧ w.heap.size ≤ gB ∧ w.heap.size ≤ gF ∧ w.heap.size ≤ gN := by
  have hmm := @run_makeMap Tryz.prog
  go_enter Tryz.func20, Tryz.ntmps20
  go_wp2_with fail
  refine (new_ok n w h0 h1).mono ?_
  rintro e W1 ⟨gP, gB, rfl, P1, E1, hgP, hgB⟩
  have hz1 := E1.size
  go_wp2_with fail
  go_returns
  have E2 := ((E1.alloc (.map #[] 0)).alloc (.map #[] 0)).alloc (.cells #[.pointer (some ⟨gP, 0, none⟩), .map (some W1.heap.size), .map (some (W1.heap.size + 1))] 117)
  refine ⟨W1.heap.size + 1 + 1, gP, gB, W1.heap.size, W1.heap.size + 1, rfl, ⟨?_, ((P1.alloc _).alloc _).alloc _, ?_, ?_⟩, E2, by omega, hgP, hgB, hz1, by omega⟩
  · exact Blk.at _ _ _ (by simp)
  · rw [heap_alloc_old _ _ (by simp; omega), heap_alloc_old _ _ (by simp)]
    exact heap_alloc_new _ _
  · rw [heap_alloc_old _ _ (by simp)]
    have := heap_alloc_new (W1.alloc (.map #[] 0)) (.map #[] 0)
    simpa using this
set_option maxRecDepth 100000 in
theorem bnew_no (n : Int) (w : World) (h : n < 1 ∨ 16 < n) : Calls Tryz.prog 20 #[.int .i64 n] w fun e w' => e = .returned (.tuple #[.pointer none, errv 1]) ∧ w' = w := by
  have HN := Lib.hid (new_no n w h)
  unfold errv at HN ⊢
  clear h
  go_enter Tryz.func20, Tryz.ntmps20
  go_wp2_with fail
  refine HN.out.mono ?_
  rintro e w' ⟨rfl, rfl⟩
  go_wp2_with fail
  go_returns
  exact ⟨rfl, rfl⟩
theorem next_none (w : World) (ty : TypeId) (g c : Nat) (h : w.heap[g]? = some (.map #[] c)) :
    (Instr.next (.pointer (some ⟨w.heap.size, 0, none⟩)) false ty).run Tryz.prog (w.alloc (.mapIter (some g) c #[] c)) = .ok (.tuple #[.bool false]) (w.alloc (.mapIter (some g) c #[] c)) := by
  rcases run_next_map (P := Tryz.prog) w ty g c c #[] #[] c h (fun x hx => by simp at hx) (Nat.le_refl _) with ⟨_, hr⟩ | ⟨e, he, _⟩
  · exact hr
  · simp [leftOf] at he
set_option maxRecDepth 100000 in
set_option maxHeartbeats 1000000 in
theorem all_zero (gT gP gB gF gN n : Nat) (w : World) (h : Tab0 w gT gP gB gF gN n) :
    Calls Tryz.prog 38 #[.pointer (some ⟨gT, 0, none⟩)] w fun e w' => e = .returned (.slice none 0 0) ∧ Ext w w' := by
  have c2 : w.cell? ⟨gT, 2, none⟩ = some (.map (some gN)) := h.ptr.cells 2
  have hr := run_range_map (P := Tryz.prog) w 115 3 52 gN #[] 0 Tryz.underlying115 h.nears
  have hn := fun ty => next_none w ty gN 0 h.nears
  have E1 : Ext w _ := (Ext.refl w).alloc (.mapIter (some gN) 0 #[] 0)
  clear h
  go_enter Tryz.func38, Tryz.ntmps38
  go_wp2_with fail
  go_loop [3] (fun v => v = .slice none 0 0) (fun _ => 0)
  case atStart => rfl
  case round =>
    obtain rfl := hrel
    go_wp2_with fail
    refine (sorted_zero _).mono ?_
    rintro e w' ⟨rfl, rfl⟩
    go_wp2_with fail
    go_returns
    exact ⟨rfl, E1⟩
end Go.Proofs.YtbjogkpepfgegaaGreatDoor
namespace Go.Proofs.YtbjogkpepfgegaaGreatDoor
open Go.RowKit
set_option maxRecDepth 100000 in
set_option maxHeartbeats 1000000 in
theorem bclone_any (a : Option Addr) (n c : Nat) (bs : List Pl.Back) (w : World) (hb : Backs w a n bs) (hn : n ≤ 8) :
    Calls Tryz.prog 21 #[.slice a n c] w fun e w' => ∃ v, e = .returned v ∧ OwnB w' w.heap.size v bs ∧ Ext w w' := by
  cases a with
  | none =>
    have h0 : n = 0 := by
      rcases hb.2 with h | ⟨_, _, h, _⟩
      · exact h
      · cases h
    subst h0
    obtain rfl : bs = [] := List.length_eq_zero_iff.1 hb.1
    have heq : ∀ W : World, (binOp BinOp.eql 24 (.slice none 0 c) (.slice none 0 0)).run Tryz.prog W = .ok (.bool true) W := fun W => by kernel_rfl
    clear hb
    go_enter Tryz.func21, Tryz.ntmps21
    go_wp2_with fail
    go_returns
    exact ⟨_, rfl, OwnB.nil _ _, Ext.refl _⟩
  | some p =>
    have HB := Lib.hid hb
    have heq : ∀ W : World, (binOp BinOp.eql 24 (.slice (some p) n c) (.slice none 0 0)).run Tryz.prog W = .ok (.bool false) W := fun W => by kernel_rfl
    clear hb
    go_enter Tryz.func21, Tryz.ntmps21
    go_wp2_with (at_builtin; refine Halt.out ?_)
    refine Halt.mk ?_
    have hE : Ext w (w.alloc (.cells #[] 34)) := (Ext.refl w).alloc _
    have hown : OwnB (w.alloc (.cells #[] 34)) w.heap.size (.slice (some ⟨w.heap.size, 0, none⟩) 0 0) [] :=
      ⟨rfl, .inr ⟨w.heap.size, 0, #[], rfl, Nat.le_refl _, heap_alloc_new w _, Nat.le_refl _, by unfold maxLen; omega, rfl, rfl⟩⟩
    refine appB rfl _ _ rfl w.heap.size _ [] rfl hown (some p) n c bs rfl (HB.out.ext hE) (by simp; omega) hE.size ?_
    intro v W ho _ hb2
    have hE2 : Ext w W := Below.trans hE hb2
    go_wp2
    go_returns
    exact ⟨v, rfl, by simpa using ho, hE2⟩
/-- A gate at which nothing has gone on: what is asked of it here. -/
structure Gate0 (w : World) (gG : Nat) (n : Nat) : Prop where
  now : w.cell? ⟨gG, 25, none⟩ = some (.int .i64 0)
  tab : ∃ gT gP gB gF gN, w.cell? ⟨gG, 23, none⟩ = some (.pointer (some ⟨gT, 0, none⟩)) ∧ Tab0 w gT gP gB gF gN n
theorem Tab0.ext {w w' : World} {gT gP gB gF gN n : Nat} (h : Tab0 w gT gP gB gF gN n) (k : Ext w w') : Tab0 w' gT gP gB gF gN n :=
  ⟨h.ptr.ext k, h.prt.ext k, (Below.block k gF (Array.getElem?_eq_some_iff.1 h.flows).1).trans h.flows, (Below.block k gN (Array.getElem?_eq_some_iff.1 h.nears).1).trans h.nears⟩
theorem Tab0.set {w : World} {gT gP gB gF gN n g : Nat} (h : Tab0 w gT gP gB gF gN n) (i : Nat) (u : Value) (h1 : gT ≠ g) (h2 : gP ≠ g) (h3 : gB ≠ g) (h4 : gF ≠ g) (h5 : gN ≠ g) : Tab0 (w.setCell ⟨g, i, none⟩ u) gT gP gB gF gN n :=
  ⟨h.ptr.far h1 u, ⟨h.prt.ptr.far h2 u, h.prt.row.far h3 u, h.prt.ne, h.prt.n0, h.prt.n1⟩, (Below.heap_setCell w _ u gF h4).trans h.flows, (Below.heap_setCell w _ u gN h5).trans h.nears⟩
set_option maxRecDepth 100000 in
set_option maxHeartbeats 2000000 in
theorem gnew_no (c : Cfg) (a : Option Addr) (n m : Nat) (bs : List Pl.Back) (i q : Int) (w : World) (hb : Backs w a n bs) (hnm : n ≤ m) (hp : Pl.PF bs i q) (he : c.err q ≠ 0) :
    Calls Tryz.prog 6 #[c.v (.slice a n m)] w fun e w' => e = .returned (.tuple #[.pointer none, errv (c.err q)]) ∧ Ext w w' := by
  have KC := Blk.new w 26 (c.cells (.slice a n m))
  have E0 := (Ext.refl w).alloc (.cells (c.cells (.slice a n m)) 26)
  have HB := Lib.hid hb
  have HP := Lib.hid hp
  have HE := Lib.hid he
  clear hb hp he
  have ld := KC.cfg
  go_enter Tryz.func6, Tryz.ntmps6
  go_wp2_with ((apply load_by rfl _ _ rfl _ rfl); (focus (with_reducible assumption)))
  refine (gcheck_any c a n m bs i q _ (HB.out.ext E0) hnm HP.out).mono ?_
  rintro e W1 ⟨rfl, q1⟩
  have E1 := E0.trans q1
  rw [erv_ne HE.out]
  unfold errv
  clear ld KC E0 q1
  go_wp2_with fail
  go_returns
  exact ⟨rfl, E1⟩
set_option maxRecDepth 100000 in
set_option maxHeartbeats 2000000 in
theorem gnew_ok (c : Cfg) (a : Option Addr) (n m : Nat) (bs : List Pl.Back) (i q : Int) (w : World) (hb : Backs w a n bs) (hnm : n ≤ m) (hp : Pl.PF bs i q) (he : c.err q = 0) :
    Calls Tryz.prog 6 #[c.v (.slice a n m)] w fun e w' => ∃ gG, e = .returned (.tuple #[.pointer (some ⟨gG, 0, none⟩), .nilIface]) ∧ Gate0 w' gG c.blocks.toNat ∧ Ext w w' := by
  have KC := Blk.new w 26 (c.cells (.slice a n m))
  have E0 := (Ext.refl w).alloc (.cells (c.cells (.slice a n m)) 26)
  have HB := Lib.hid hb
  have HP := Lib.hid hp
  have HE := Lib.hid he
  have hgood : c.numB = true ∧ q = 0 := by
    unfold Cfg.err at he
    split at he
    · split at he
      · split at he
        · split at he
          · split at he
            · rename_i h1 h2
              exact ⟨h1, h2⟩
            · rename_i h; exact absurd he h
          · cases he
        · rename_i h; exact absurd he h
      · cases he
    · cases he
  obtain ⟨hnum, hq⟩ := hgood
  obtain ⟨_, _, _, hb1, hb2⟩ := Cfg.numB_yes hnum
  have hn8 : n ≤ 8 := by
    have := (hp.ok hq).1
    rw [hb.1] at this
    exact this
  clear hb hp he hnum hq
  have ld := KC.cfg
  have hmm := @run_makeMap Tryz.prog
  go_enter Tryz.func6, Tryz.ntmps6
  go_wp2_with ((apply load_by rfl _ _ rfl _ rfl); (focus (with_reducible assumption)))
  refine (gcheck_any c a n m bs i q _ (HB.out.ext E0) hnm HP.out).mono ?_
  rintro e W1 ⟨rfl, q1⟩
  have E1 := E0.trans q1
  have K1 := KC.ext q1
  rw [HE.out, erv_zero]
  obtain ⟨nb, hnb⟩ : ∃ nb : Nat, c.blocks = (nb : Int) := ⟨c.blocks.toNat, by omega⟩
  have c20 := K1.cfgNums.2.2.2.2.1
  have HNB := Lib.hid (show c.blocks.toNat = nb by omega)
  rw [hnb] at c20 hb1 hb2
  clear ld KC E0 q1
  go_wp2_with fail
  refine (bnew_ok nb W1 (by omega) (by omega)).mono ?_
  rintro e W2 ⟨gT, gP, gB, gF, gN, rfl, T2, q2, l1, l2, l3, l4, l5⟩
  have E2 := E1.trans q2
  have K2 := K1.ext q2
  have c22 := K2.cfgNums.2.2.2.2.2
  have hgc : w.heap.size < W1.heap.size := K1.lt
  clear c20 q2
  go_wp2_with fail
  refine (bclone_any a n m bs W2 (HB.out.ext E2) hn8).mono ?_
  rintro e W3 ⟨v3, rfl, o3, q3⟩
  have E3 := E2.trans q3
  have K3 := K2.ext q3
  have T3 := T2.ext q3
  have f22 := K3.free 22
  have c22 := K3.cells 22
  obtain ⟨a3, n3, m3, rfl, _, _⟩ := o3.read
  have K4 := K3.put 22 (.slice a3 n3 m3)
  have T4 := T3.set (g := w.heap.size) 22 (.slice a3 n3 m3) (by omega) (by omega) (by omega) (by omega) (by omega)
  have E4 : Ext w (W3.setCell ⟨w.heap.size, 22, none⟩ (.slice a3 n3 m3)) := Ext.set E3 (p := ⟨w.heap.size, 22, none⟩) (Nat.le_refl _) _
  clear E3 K3 T3 o3 K2 T2 E2 q3
  go_upto_region 8 with (fail)
  refine at_worldE (fun W => Ext w W ∧ Blk W w.heap.size 26 (c.cells (.slice a3 n3 m3)) ∧ Tab0 W gT gP gB gF gN nb) ⟨E4, K4, T4⟩ ?_
  clear E4 K4 T4 f22 c22
  rintro W4 ⟨E4, K4, T4⟩
  have ld : (Instr.loadAt 26 (.pointer (some ⟨w.heap.size, 0, none⟩))).run Tryz.prog W4 = .ok (.agg #[.int .i64 c.vip.x0, .int .i64 c.vip.x1, .int .i64 c.vip.x2, .int .i64 c.vip.x3, .int .i64 c.vip.x4, .int .i64 c.vip.x5, .int .i64 c.vip.x6, .int .i64 c.vip.x7, .int .i64 c.door, .int .i64 c.pre.x0, .int .i64 c.pre.x1, .int .i64 c.pre.x2, .int .i64 c.pre.x3, .int .i64 c.pre.x4, .int .i64 c.pre.x5, .int .i64 c.pre.x6, .int .i64 c.pre.x7, .int .i64 c.len, .int .i64 c.near, .int .i64 c.seed, .int .i64 c.blocks, .bool c.inj, .slice a3 n3 m3]) W4 := K4.cfg
  have HE4 := Lib.hid E4
  have HT4 := Lib.hid T4
  clear E4 K4 T4
  go_wp2_with ((apply load_by rfl _ _ rfl _ rfl); (focus (with_reducible assumption)))
  go_returns
  have KG := Blk.at (n := W4.heap.size + 1) (W4.alloc (.map #[] 0)) 71 #[.int .i64 c.vip.x0, .int .i64 c.vip.x1, .int .i64 c.vip.x2, .int .i64 c.vip.x3, .int .i64 c.vip.x4, .int .i64 c.vip.x5, .int .i64 c.vip.x6, .int .i64 c.vip.x7, .int .i64 c.door, .int .i64 c.pre.x0, .int .i64 c.pre.x1, .int .i64 c.pre.x2, .int .i64 c.pre.x3, .int .i64 c.pre.x4, .int .i64 c.pre.x5, .int .i64 c.pre.x6, .int .i64 c.pre.x7, .int .i64 c.len, .int .i64 c.near, .int .i64 c.seed, .int .i64 (nb : Int), .bool c.inj, .slice a3 n3 m3, .pointer (some ⟨gT, 0, none⟩), .map (some W4.heap.size), .int .i64 0] (by simp)
  rw [HNB.out]
  refine ⟨W4.heap.size + 1, rfl, ⟨KG.cells 25, gT, gP, gB, gF, gN, KG.cells 23, ?_⟩, ?_⟩
  · exact HT4.out.ext (((Ext.refl W4).alloc _).alloc _)
  · exact (HE4.out.alloc _).alloc _
end Go.Proofs.YtbjogkpepfgegaaGreatDoor
namespace Go.Proofs.YtbjogkpepfgegaaGreatDoor
open Go.RowKit
/-- An iterator of map g: since when, which stamps have come. -/
def It (w : World) (r g since : Nat) (seen : List Nat) : Prop := ∃ c0, since ≤ c0 ∧ w.heap[r]? = some (.mapIter (some g) since seen.toArray c0)
section
variable {w w' : World} {r g since : Nat} {seen : List Nat} {S : List Nat}
theorem It.lt (h : It w r g since seen) : r < w.heap.size := by
  obtain ⟨c, _, h⟩ := h
  exact (Array.getElem?_eq_some_iff.1 h).1
theorem It.kp (h : It w r g since seen) (k : Kp S w w') (hr : r ∉ S) : It w' r g since seen := by
  have hl := h.lt
  obtain ⟨c, hc, h⟩ := h
  exact ⟨c, hc, (k.block r hl hr).trans h⟩
theorem It.ext (h : It w r g since seen) (k : Ext w w') : It w' r g since seen := h.kp (k.kp []) (by simp)
theorem It.grown {row : Option Nat} (h : It w r g since seen) (k : w.grownBy w' row) (hr : some r ≠ row) : It w' r g since seen := by
  have hl := h.lt
  obtain ⟨c, hc, h⟩ := h
  exact ⟨c, hc, (k.block r hl hr).trans h⟩
theorem Kp.grown1 {a b : World} (h : Kp [r] a b) : a.grownBy b (some r) := ⟨h.os, h.tape, h.output, h.size, fun i hi hne => h.block i hi (by simp; exact fun e => hne (by rw [e]))⟩
/-- How many entries have come. -/
def itSeen (w : World) (r : Nat) : Nat := match w.heap[r]? with | some (.mapIter _ _ seen _) => seen.size | _ => 0
theorem It.count (h : It w r g since seen) : itSeen w r = seen.length := by
  obtain ⟨c, _, h⟩ := h
  unfold itSeen
  rw [h]
  simp
variable {κ : Type} {K : Keys κ} {l : List (Ent κ)} {clock : Nat}
theorem MapIs.range (h : MapIs K w g l clock) (mt e : TypeId) (hm : Tryz.prog.underlying mt = some (.map K.t e)) :
    (Instr.range mt (.map (some g))).run Tryz.prog w = .ok (.pointer (some ⟨w.heap.size, 0, none⟩)) (w.alloc (.mapIter (some g) clock #[] clock)) := run_range_map w mt K.t e g _ clock hm h.here
theorem It.new (w : World) (g clock : Nat) : It (w.alloc (.mapIter (some g) clock #[] clock)) w.heap.size g clock [] := ⟨clock, Nat.le_refl _, heap_alloc_new w _⟩
theorem MapIs.next (h : MapIs K w g l clock) (hi : It w r g since seen) (hrg : r ≠ g) (hold : ∀ x ∈ l, x.born < since) (hsc : since ≤ clock) (hn : (l.map (·.born)).Nodup) (ty : TypeId) :
    ((∀ x ∈ l, x.born ∈ seen) ∧ (Instr.next (.pointer (some ⟨r, 0, none⟩)) false ty).run Tryz.prog w = .ok (.tuple #[.bool false]) w) ∨
    ∃ x ∈ l, x.born ∉ seen ∧ ∃ w', (Instr.next (.pointer (some ⟨r, 0, none⟩)) false ty).run Tryz.prog w = .ok (.tuple #[.bool true, K.f x.key, x.val]) w' ∧ It w' r g since (seen ++ [x.born]) ∧ Kp [r] w w' ∧
      (Instr.entry (.pointer (some ⟨r, 0, none⟩))).run Tryz.prog w' = .ok (.tuple #[K.f x.key, x.val]) w' := by
  have hr := hi.lt
  obtain ⟨c0, hc, hit⟩ := hi
  rcases run_next_at w ty r g since c0 seen.toArray _ clock hit h.here (fun x hx => by
    obtain ⟨y, hy, rfl⟩ := List.mem_map.1 hx
    exact hold y hy) hc with ⟨h0, hrun⟩ | ⟨e, he, w1, hw1, hrun⟩
  · left
    refine ⟨fun x hx => ?_, hrun⟩
    have h0' : leftOf (l.map K.ent).toArray seen.toArray = #[] := Array.eq_empty_of_size_eq_zero h0
    unfold leftOf at h0'
    rw [Array.filter_eq_empty_iff] at h0'
    have := h0' (K.ent x) (by simpa using ⟨x, hx, rfl⟩)
    simpa [Keys.ent] using this
  · right
    unfold leftOf at he
    have he' : e ∈ (l.map K.ent).toArray ∧ (!seen.toArray.contains e.born) = true := by simpa using he
    obtain ⟨hm, hs⟩ := he'
    have hm' : e ∈ l.map K.ent := by simpa using hm
    obtain ⟨x, hx, rfl⟩ := List.mem_map.1 hm'
    have hb1 : w1.heap = w.heap := by rcases hw1 with rfl | rfl <;> rfl
    have hbl : ∀ i, i ≠ r → (Go.ChangeMaps.setBlock w1 r (.mapIter (some g) since (seen.toArray.push (K.ent x).born) clock)).heap[i]? = w.heap[i]? := fun i hi => by
      show (w1.heap.setIfInBounds r _)[i]? = _
      rw [Array.getElem?_setIfInBounds_ne (fun e => hi e.symm), hb1]
    have hat : (Go.ChangeMaps.setBlock w1 r (.mapIter (some g) since (seen.toArray.push (K.ent x).born) clock)).heap[r]? = some (.mapIter (some g) since (seen.toArray.push (K.ent x).born) clock) := by
      show (w1.heap.setIfInBounds r _)[r]? = _
      rw [Array.getElem?_setIfInBounds_self, hb1, if_pos hr]
    refine ⟨x, hx, by simpa [Keys.ent] using hs, _, hrun, ⟨clock, hsc, ?_⟩, ⟨?_, ?_, ?_, ?_, ?_⟩, ?_⟩
    · rw [hat]
      simp [Keys.ent]
    · rcases hw1 with rfl | rfl <;> rfl
    · rcases hw1 with rfl | rfl <;> rfl
    · rcases hw1 with rfl | rfl <;> rfl
    · show w.heap.size ≤ (w1.heap.setIfInBounds r _).size
      rw [Array.size_setIfInBounds, hb1]
      exact Nat.le_refl _
    · exact fun i _ hi => hbl i (by simpa using hi)
    · refine run_entry_at _ r g since seen.toArray _ clock (K.ent x) hat ((hbl g (fun e => hrg e.symm)).trans h.here) (by simpa using ⟨x, hx, rfl⟩) ?_
      rw [show ((l.map K.ent).toArray.toList.map (·.born)) = l.map (·.born) by simp [Keys.ent, Function.comp_def]]
      exact hn
variable {ops : Array Oper} {rest : List Oper} {o : Oper} {a : Act} {Q : Exit → Act → World → Prop}
/-- 'range m' in a walk. -/
theorem at_map (hg : o.guard = none) (m : Operand) (t e : TypeId) (hop : o.op = Op.range t m) (h : MapIs K w g l clock) (hm : a.eval m = .map (some g)) (hu : Tryz.prog.underlying t = some (.map K.t e))
    (hK : ∀ w', It w' w.heap.size g clock [] → Ext w w' → w'.heap.size = w.heap.size + 1 → wpList Tryz.prog ops Q rest (a.put o.dst (.pointer (some ⟨w.heap.size, 0, none⟩))) w') : wpList Tryz.prog ops Q (o :: rest) a w := by
  refine wpList_plain hg fun K' hK' => ?_
  have hrun := h.range t e hu
  unfold Oper.wp
  simp [execOp, hop, hm, hrun, Result.andThen]
  exact hK' _ _ (hK _ (It.new w g clock) ((Ext.refl w).alloc _) (Array.size_push _))
/-- A range loop's step in a walk. -/
theorem at_nextmap (hg : o.guard = none) (it : Operand) (hop : o.op = Op.next it false) (hit : a.eval it = .pointer (some ⟨r, 0, none⟩)) (h : MapIs K w g l clock) (hi : It w r g since seen) (hrg : r ≠ g) (hold : ∀ x ∈ l, x.born < since) (hsc : since ≤ clock) (hn : (l.map (·.born)).Nodup)
    (hDone : (∀ x ∈ l, x.born ∈ seen) → wpList Tryz.prog ops Q rest (a.put o.dst (.tuple #[.bool false])) w)
    (hMore : ∀ x w', x ∈ l → x.born ∉ seen → It w' r g since (seen ++ [x.born]) → Kp [r] w w' → (Instr.entry (.pointer (some ⟨r, 0, none⟩))).run Tryz.prog w' = .ok (.tuple #[K.f x.key, x.val]) w' → wpList Tryz.prog ops Q rest (a.put o.dst (.tuple #[.bool true, K.f x.key, x.val])) w') :
    wpList Tryz.prog ops Q (o :: rest) a w := by
  refine wpList_plain hg fun K' hK' => ?_
  unfold Oper.wp
  rcases h.next hi hrg hold hsc hn o.type with ⟨h0, hrun⟩ | ⟨x, hx, hs, w', hrun, h1, h2, h3⟩
  · simp [execOp, hop, hit, hrun, Result.andThen]
    exact hK' _ _ (hDone h0)
  · simp [execOp, hop, hit, hrun, Result.andThen]
    exact hK' _ _ (hMore x w' hx hs h1 h2 h3)
end
end Go.Proofs.YtbjogkpepfgegaaGreatDoor
