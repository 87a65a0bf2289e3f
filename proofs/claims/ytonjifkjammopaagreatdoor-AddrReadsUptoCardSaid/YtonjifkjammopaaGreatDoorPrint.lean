/- addr.Print of any address. Conditions: as each lemma states them. -/
import Derived.Test.YtonjifkjammopaaGreatDoorHex
import Derived.Test.YtonjifkjammopaaGreatDoorRunS
import Derived.Laws.Slices
import Derived.Deep.RegionHeld3
namespace Go.Proofs.YtonjifkjammopaaGreatDoor
open Go.RowKit
theorem Tryz.sizeIntB (w : World) : (sizeOf 3).run Tryz.prog w = .ok 1 w := by kernel_rfl
theorem Tryz.len6 : Tryz.prog.arrayLen 23 = 8 := by kernel_rfl
theorem Tryz.elem6 : Tryz.prog.elem 23 = 3 := by kernel_rfl
theorem Tryz.arr6 : Tryz.prog.underlying 23 = some (.array (Tryz.prog.arrayLen 23) (Tryz.prog.elem 23)) := by kernel_rfl
/-- The first numbers of an address, the last ones, all. -/
theorem six_head (w : World) (g k : Nat) (hk : k ≤ 8) : (Instr.sliceAt 23 (.pointer (some ⟨g, 0, none⟩)) none (some (.int .i64 (k : Int))) none).run Tryz.prog w = .ok (.slice (some ⟨g, 0, none⟩) k 8) w := by
  rw [run_sliceAt_array_h w 23 ⟨g, 0, none⟩ Tryz.arr6 .i64 (k : Int) (by omega) (by rw [Tryz.len6]; omega), Tryz.elem6, Tryz.len6, Tryz.sizeIntB]
  show Result.ok (slicedAt ⟨g, 0, none⟩ 0 (k : Int).toNat 8 1) w = _
  unfold slicedAt
  rw [Int.toNat_natCast, if_neg (by omega)]
  rfl
def tailAt (g k : Nat) : Addr := if 8 = k then ⟨g, 0, none⟩ else ⟨g, k, none⟩
theorem six_tail (w : World) (g k : Nat) (hk : k ≤ 8) : (Instr.sliceAt 23 (.pointer (some ⟨g, 0, none⟩)) (some (.int .i64 (k : Int))) none none).run Tryz.prog w = .ok (.slice (some (tailAt g k)) (8 - k) (8 - k)) w := by
  rw [run_sliceAt_array_l w 23 ⟨g, 0, none⟩ Tryz.arr6 .i64 (k : Int) (by omega) (by rw [Tryz.len6]; omega), Tryz.elem6, Tryz.len6, Tryz.sizeIntB]
  show Result.ok (slicedAt ⟨g, 0, none⟩ (k : Int).toNat 8 8 1) w = _
  unfold slicedAt tailAt
  rw [Int.toNat_natCast]
  by_cases h : 8 = k
  · rw [if_pos h, if_pos h]
  · rw [if_neg h, if_neg h]
    simp [Addr.add]
    omega
theorem six_whole (w : World) (g : Nat) : (Instr.sliceAt 23 (.pointer (some ⟨g, 0, none⟩)) none none none).run Tryz.prog w = .ok (.slice (some ⟨g, 0, none⟩) 8 8) w := by
  rw [run_sliceAt_array_all w 23 ⟨g, 0, none⟩ Tryz.arr6, Tryz.elem6, Tryz.len6, Tryz.sizeIntB]
  rfl
theorem Blk.sixInts {w : World} {g : Nat} {t : TypeId} {s : Six} (h : Blk w g t s.cells) : Ints .i64 w (some ⟨g, 0, none⟩) 8 s.l :=
  h.ints rfl fun i hi => by rw [Nat.zero_add]; exact s.cells_at i hi
theorem Blk.sixHead {w : World} {g : Nat} {t : TypeId} {s : Six} (h : Blk w g t s.cells) (k : Nat) (hk : k ≤ 8) : Ints .i64 w (some ⟨g, 0, none⟩) k (s.l.take k) :=
  (h.sixInts.see.take k hk).ints
theorem Blk.sixTail {w : World} {g : Nat} {t : TypeId} {s : Six} (h : Blk w g t s.cells) (k : Nat) (hk : k ≤ 8) : Ints .i64 w (some (tailAt g k)) (8 - k) (s.l.drop k) := by
  by_cases h8 : k = 8
  · subst h8
    exact Ints.nil
  · have := (h.sixInts.see.drop k).ints
    unfold tailAt
    rw [if_neg (by omega)]
    simpa [KI] using this
theorem okS_all {s : Six} (hs : okS s = true) : ∀ x ∈ s.l, 0 ≤ x ∧ x ≤ 65535 := by
  intro x hx
  obtain ⟨k, hk, rfl⟩ := List.mem_iff_getElem.1 hx
  have h := Six.Ok.at (s := s) hs k
  rwa [List.getD_eq_getElem?_getD, List.getElem?_eq_getElem hk] at h
theorem runL_bd (s : Six) : (Pl.runL s.nl 8).1 ≤ 8 ∧ (Pl.runL s.nl 8).1 + (Pl.runL s.nl 8).2 ≤ 8 := by
  rcases Pl.runL_is s.nl 8 (by rw [s.nl_len]; omega) with ⟨h2, h1⟩ | h0
  · have := Pl.noughts_le s.nl (Pl.runL s.nl 8).1
    rw [s.nl_len] at this h1
    omega
  · rw [h0]; decide
/-- The bytes of a text. -/
def txtB (l : List UInt8) : ByteArray := ⟨l.toArray⟩
theorem txtB_app (a b : List UInt8) : txtB a ++ txtB b = txtB (a ++ b) := by
  apply ByteArray.ext
  simp [txtB, ByteArray.data_append]
set_option maxRecDepth 100000 in
theorem print_no (s : Six) (w : World) (hs : okS s = false) :
    Calls Tryz.prog 9 #[s.v] w fun e w' => e = .returned (.tuple #[.string ⟨#[]⟩, errv 1]) ∧ Ext w w' := by
  have K0 := Blk.new w 23 s.cells
  have E0 := (Ext.refl w).alloc (.cells s.cells 23)
  have ld := K0.six0
  have HS := Lib.hid hs
  clear hs K0
  go_enter Tryz.func9, Tryz.ntmps9
  go_wp2_with ((apply load_by rfl _ _ rfl _ rfl); (focus (with_reducible assumption)))
  refine (check6_no s _ HS.out).mono ?_
  rintro e W1 ⟨rfl, q1⟩
  unfold errv
  go_wp2_with fail
  go_returns
  exact ⟨rfl, E0.trans q1⟩
set_option maxRecDepth 100000 in
set_option maxHeartbeats 1000000 in
theorem print_yes (s : Six) (w : World) (T : Tabs w) (hs : okS s = true) :
    Calls Tryz.prog 9 #[s.v] w fun e w' => e = .returned (.tuple #[.string (txtB (Pl.textL s.nl)), .nilIface]) ∧ Ext w w' := by
  have K0 := Blk.new w 23 s.cells
  have E0 := (Ext.refl w).alloc (.cells s.cells 23)
  have ld := K0.six0
  have HT := Lib.hid T
  have HS := Lib.hid hs
  clear hs T
  go_enter Tryz.func9, Tryz.ntmps9
  go_wp2_with ((apply load_by rfl _ _ rfl _ rfl); (focus (with_reducible assumption)))
  refine (check6_yes s _ HS.out).mono ?_
  rintro e W1 ⟨rfl, q1⟩
  have E1 := E0.trans q1
  have K1 := K0.ext q1
  clear ld K0 E0 q1
  have ld := K1.six0
  go_wp2_with ((apply load_by rfl _ _ rfl _ rfl); (focus (with_reducible assumption)))
  refine (run6_any s _ HS.out).mono ?_
  rintro e W2 ⟨rfl, q2⟩
  have E2 := E1.trans q2
  have K2 := K1.ext q2
  clear ld K1 E1 q2
  have hbd := runL_bd s
  have HR := Lib.hid (show Pl.textL s.nl = if (Pl.runL s.nl 8).2 < 2 then Pl.hexJ s.nl else Pl.hexJ (s.nl.take (Pl.runL s.nl 8).1) ++ [58, 58] ++ Pl.hexJ (s.nl.drop ((Pl.runL s.nl 8).1 + (Pl.runL s.nl 8).2)) from rfl)
  generalize (Pl.runL s.nl 8).1 = f at *
  generalize (Pl.runL s.nl 8).2 = n at *
  have HE := Lib.hid E2
  have HK := Lib.hid K2
  clear E2 K2
  by_cases hn : n < 2
  case pos =>
    have hn' : (n : Int) < 2 := by omega
    have hsl := six_whole W2 w.heap.size
    have hh := hex_any (some ⟨w.heap.size, 0, none⟩) 8 8 s.l W2 (HT.out.ext HE.out) HK.out.sixInts (okS_all HS.out) (by omega) (by omega)
    have HH := Lib.hid hh
    clear hh
    go_wp2_with fail
    refine HH.out.mono ?_
    rintro e W3 ⟨rfl, E3⟩
    have hfin : txtB (Pl.textL s.nl) = ⟨(Pl.hexJ (s.l.map Int.toNat)).toArray⟩ := by rw [HR.out, if_pos hn]; rfl
    have HF := Lib.hid hfin
    clear hfin
    go_wp2_with fail
    go_returns
    exact ⟨by rw [HF.out]; rfl, HE.out.trans E3⟩
  have hn' : ¬ (n : Int) < 2 := by omega
  have h1 := fun W => six_head W w.heap.size f hbd.1
  have h2 : ∀ W, (Instr.sliceAt 23 (.pointer (some ⟨w.heap.size, 0, none⟩)) (some (.int .i64 ((f : Int) + (n : Int)))) none none).run Tryz.prog W = .ok (.slice (some (tailAt w.heap.size (f + n))) (8 - (f + n)) (8 - (f + n))) W := fun W => by
    have := six_tail W w.heap.size (f + n) hbd.2
    rwa [Int.natCast_add] at this
  have wfn : IntKind.i64.wrap ((f : Int) + (n : Int)) = (f : Int) + (n : Int) := IntWalk.i64_in _ (by omega)
  go_upto_region 7 with (fail)
  have D0 := HE.out.drew
  have KD0 := Blk.drew HK.out
  have S0 : (fun _ : World => True) W2.drew := trivial
  refine wp_region_held_drew (S := fun _ => True) (by kernel_rfl) S0 (fun hS0 => ?_)
  clear S0
  generalize W2.drew = V at *
  (refine wpAnyH_take (i := 0) (v := ?_) rfl (by kernel_rfl) (by kernel_rfl) (by kernel_rfl) (fun _ _ _ h => h) (Or.inl ⟨by rfl, ?_⟩) (by assumption) ?_; rotate_left; focus (intro w hSw; (try dsimp only at hSw); go_simp; try with_reducible rfl); try simp only [Act.put, List.getElem_toArray, List.getElem_cons_succ, List.getElem_cons_zero, List.setIfInBounds_toArray, List.set_cons_zero, List.set_cons_succ])
  (refine wpAnyH_take (i := 1) (v := ?_) rfl (by kernel_rfl) (by kernel_rfl) (by kernel_rfl) (fun _ _ _ h => h) (Or.inl ⟨by rfl, ?_⟩) (by assumption) ?_; rotate_left; focus (intro w hSw; (try dsimp only at hSw); go_simp; try with_reducible rfl); try simp only [Act.put, List.getElem_toArray, List.getElem_cons_succ, List.getElem_cons_zero, List.setIfInBounds_toArray, List.set_cons_zero, List.set_cons_succ])
  (refine wpAnyH_take (i := 4) (v := ?_) rfl (by kernel_rfl) (by kernel_rfl) (by kernel_rfl) (fun _ _ _ h => h) (Or.inl ⟨by rfl, ?_⟩) (by assumption) ?_; rotate_left; focus (intro w hSw; (try dsimp only at hSw); go_simp; try with_reducible rfl); try simp only [Act.put, List.getElem_toArray, List.getElem_cons_succ, List.getElem_cons_zero, List.setIfInBounds_toArray, List.set_cons_zero, List.set_cons_succ])
  (refine wpAnyH_take (i := 5) (v := ?_) rfl (by kernel_rfl) (by kernel_rfl) (by kernel_rfl) (fun _ _ _ h => h) (Or.inl ⟨by rfl, ?_⟩) (by assumption) ?_; rotate_left; focus (intro w hSw; (try dsimp only at hSw); go_simp; try with_reducible rfl); try simp only [Act.put, List.getElem_toArray, List.getElem_cons_succ, List.getElem_cons_zero, List.setIfInBounds_toArray, List.set_cons_zero, List.set_cons_succ])
  (refine wpAnyH_take (i := 6) (v := ?_) rfl (by kernel_rfl) (by kernel_rfl) (by kernel_rfl) (fun _ _ _ h => h) (Or.inl ⟨by rfl, ?_⟩) (by assumption) ?_; rotate_left; focus (intro w hSw; (try dsimp only at hSw); go_simp; try with_reducible rfl); try simp only [Act.put, List.getElem_toArray, List.getElem_cons_succ, List.getElem_cons_zero, List.setIfInBounds_toArray, List.set_cons_zero, List.set_cons_succ])
  (refine wpAnyH_take (i := 7) (v := ?_) rfl (by kernel_rfl) (by kernel_rfl) (by kernel_rfl) (fun _ _ _ h => h) (Or.inl ⟨by rfl, ?_⟩) (by assumption) ?_; rotate_left; focus (intro w hSw; (try dsimp only at hSw); go_simp; try with_reducible rfl); try simp only [Act.put, List.getElem_toArray, List.getElem_cons_succ, List.getElem_cons_zero, List.setIfInBounds_toArray, List.set_cons_zero, List.set_cons_succ])
  (try simp only [Act.put, List.getElem_toArray, List.getElem_cons_succ, List.getElem_cons_zero, List.setIfInBounds_toArray, List.set_cons_zero, List.set_cons_succ])
  (refine wpAnyH_ready (rs := [2]) (by kernel_rfl) (by simp) ?_; refine AllReadyH.cons rfl (fun K hK => ?_) AllReadyH.nil)
  go_simp
  go_at_call 24
  refine (hex_any (some ⟨w.heap.size, 0, none⟩) f 8 (s.l.take f) V (HT.out.ext D0) (KD0.sixHead f hbd.1) (fun x hx => okS_all HS.out x (List.mem_of_mem_take hx)) hbd.1 hbd.1).mono ?_
  rintro e V2 ⟨rfl, q3⟩
  have e1 : (⟨(Pl.hexJ ((s.l.take f).map Int.toNat)).toArray⟩ : ByteArray) = txtB (Pl.hexJ (s.nl.take f)) := by unfold txtB Six.nl; rw [List.map_take]
  rw [e1]
  have z1 : (txtB (Pl.hexJ (s.nl.take f))).size ≤ 40 := by
    have := Pl.hexJ_len (s.nl.take f)
    rw [List.length_take, s.nl_len] at this
    show (Pl.hexJ (s.nl.take f)).toArray.size ≤ 40
    rw [List.size_toArray]
    omega
  have HT1 := Lib.hid (Eq.refl (txtB (Pl.hexJ (s.nl.take f))))
  clear e1
  generalize hT1 : txtB (Pl.hexJ (s.nl.take f)) = t1 at z1 HT1 ⊢
  have c1 : ¬ 9223372036854775807 < t1.size + 2 := by omega
  have HH1 := Lib.hid hT1
  clear hT1 HT1
  have D1 := D0.trans q3
  have KD1 := KD0.ext q3
  refine hK.out _ _ trivial ?_
  clear hK K D0 KD0 q3
  intro hS1
  (try simp only [Act.put, List.getElem_toArray, List.getElem_cons_succ, List.getElem_cons_zero, List.setIfInBounds_toArray, List.set_cons_zero, List.set_cons_succ])
  (refine wpAnyH_take (i := 3) (v := ?_) rfl (by kernel_rfl) (by kernel_rfl) (by kernel_rfl) (fun _ _ _ h => h) (Or.inl ⟨by rfl, ?_⟩) (by assumption) ?_; rotate_left; focus (intro w hSw; (try dsimp only at hSw); go_simp; try with_reducible rfl); try simp only [Act.put, List.getElem_toArray, List.getElem_cons_succ, List.getElem_cons_zero, List.setIfInBounds_toArray, List.set_cons_zero, List.set_cons_succ])
  (try simp only [Act.put, List.getElem_toArray, List.getElem_cons_succ, List.getElem_cons_zero, List.setIfInBounds_toArray, List.set_cons_zero, List.set_cons_succ])
  have z2 : (t1 ++ ⟨#[58, 58]⟩ : ByteArray).size ≤ 42 := by
    rw [ByteArray.size_append]
    show t1.size + 2 ≤ 42
    omega
  obtain ⟨t2, ht2⟩ : ∃ t2, t2 = (t1 ++ ⟨#[58, 58]⟩ : ByteArray) := ⟨_, rfl⟩
  rw [← ht2] at z2
  simp only [← ht2]
  have HH2 := Lib.hid ht2
  clear ht2 c1
  (refine wpAnyH_ready (rs := [8]) (by kernel_rfl) (by simp) ?_; refine AllReadyH.cons rfl (fun K hK => ?_) AllReadyH.nil)
  go_simp
  go_at_call 24
  refine (hex_any (some (tailAt w.heap.size (f + n))) (8 - (f + n)) (8 - (f + n)) (s.l.drop (f + n)) V2 (HT.out.ext D1) (KD1.sixTail (f + n) hbd.2) (fun x hx => okS_all HS.out x (List.mem_of_mem_drop hx)) (by omega) (Nat.le_refl _)).mono ?_
  rintro e V3 ⟨rfl, q4⟩
  have e3 : (⟨(Pl.hexJ ((s.l.drop (f + n)).map Int.toNat)).toArray⟩ : ByteArray) = txtB (Pl.hexJ (s.nl.drop (f + n))) := by unfold txtB Six.nl; rw [List.map_drop]
  rw [e3]
  have z3 : (txtB (Pl.hexJ (s.nl.drop (f + n)))).size ≤ 40 := by
    have := Pl.hexJ_len (s.nl.drop (f + n))
    rw [List.length_drop, s.nl_len] at this
    show (Pl.hexJ (s.nl.drop (f + n))).toArray.size ≤ 40
    rw [List.size_toArray]
    omega
  clear e3
  generalize hT3 : txtB (Pl.hexJ (s.nl.drop (f + n))) = t3 at z3 ⊢
  have c2 : ¬ 9223372036854775807 < t2.size + t3.size := by omega
  have HH3 := Lib.hid hT3
  clear hT3
  have D2 := D1.trans q4
  refine hK.out _ _ trivial ?_
  clear hK K D1 KD1 q4
  intro hS2
  (try simp only [Act.put, List.getElem_toArray, List.getElem_cons_succ, List.getElem_cons_zero, List.setIfInBounds_toArray, List.set_cons_zero, List.set_cons_succ])
  (refine wpAnyH_take (i := 9) (v := ?_) rfl (by kernel_rfl) (by kernel_rfl) (by kernel_rfl) (fun _ _ _ h => h) (Or.inl ⟨by rfl, ?_⟩) (by assumption) ?_; rotate_left; focus (intro w hSw; (try dsimp only at hSw); go_simp; try with_reducible rfl); try simp only [Act.put, List.getElem_toArray, List.getElem_cons_succ, List.getElem_cons_zero, List.setIfInBounds_toArray, List.set_cons_zero, List.set_cons_succ])
  (refine wpAnyH_take (i := 10) (v := ?_) rfl (by kernel_rfl) (by kernel_rfl) (by kernel_rfl) (fun _ _ _ h => h) (Or.inl ⟨by rfl, ?_⟩) (by assumption) ?_; rotate_left; focus (intro w hSw; (try dsimp only at hSw); go_simp; try with_reducible rfl); try simp only [Act.put, List.getElem_toArray, List.getElem_cons_succ, List.getElem_cons_zero, List.setIfInBounds_toArray, List.set_cons_zero, List.set_cons_succ])
  (refine wpAnyH_take (i := 11) (v := ?_) rfl (by kernel_rfl) (by kernel_rfl) (by kernel_rfl) (fun _ _ _ h => h) (Or.inl ⟨by rfl, ?_⟩) (by assumption) ?_; rotate_left; focus (intro w hSw; (try dsimp only at hSw); go_simp; try with_reducible rfl); try simp only [Act.put, List.getElem_toArray, List.getElem_cons_succ, List.getElem_cons_zero, List.setIfInBounds_toArray, List.set_cons_zero, List.set_cons_succ])
  (try simp only [Act.put, List.getElem_toArray, List.getElem_cons_succ, List.getElem_cons_zero, List.setIfInBounds_toArray, List.set_cons_zero, List.set_cons_succ])
  refine wpAnyH_done (by kernel_rfl) ?_ _
  go_wp2_with fail
  go_returns
  refine ⟨?_, D2⟩
  rw [HR.out, if_neg hn, ← txtB_app, ← txtB_app, HH1.out, HH3.out, show txtB [58, 58] = ⟨#[58, 58]⟩ from rfl, ← HH2.out]
  rfl
end Go.Proofs.YtonjifkjammopaaGreatDoor
